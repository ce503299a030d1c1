/- Part of the proofs of this seat's laws: Lab. No condition. -/
import Derived.Test.YticpmdigfdpmfaaGreatTy
import Derived.Test.YticpmdigfdpmfaaGreatTIRall
import Derived.Test.YticpmdigfdpmfaaGreatLaa
set_option linter.unusedVariables false
set_option linter.unusedSimpArgs false
set_option linter.unusedSectionVars false
namespace Go.Vs
set_option maxRecDepth 100000
def EA:J:=js [jq 2 (.mv (.k (.c (.n 1))))] [0] (js [jq 3 (.bsl 1 []),jm 4 0,jq 5 (.app 1 8 false 3 4),jm 2 5] [2] .ret)
def FP:List RV:=[.t 2]
open Go.Proofs Go.IntWalk
set_option linter.unusedVariables false
set_option maxHeartbeats 4000000
def nf (g:G) (t:TE) (a0:List Int):Option (List Int):=
 lP ([]) fun(l1:List Int)=>
 gd (((l1.length+a0.length)*8≤70368744177664))<|
 lP (l1++a0) fun(l2:List Int)=>
 some l2
theorem vS {g:G} {t:TE} {a0:List Int} {r:List Int} (hg:g=G.real) (ht:t=TE.real) (h:nf g t a0=some r):Fn Tryz.prog 152 [.c (.s 1 (t.r_I64 a0))] (.c (.o 1 (t.d_I64 r))):=by
 obtain⟨X,hX⟩:=aJ (.c (.o 1 (t.d_I64 r)):X);rw[←hX];refine aE (rvs:=FP) (j:=EA) Tryz.func152 rfl (by kernel_rfl) (nb rfl) (by kernel_rfl) ac ?_;intro g2 F hg2 hF;obtain rfl:g2=g:=hg2.unique.trans hg.symm;clear hg2;obtain⟨_,_,_,_,_,_,_,_,_,_,_,_,_,_,_,_,_,_,_,_,_,_,_,_,dlen⟩:=g2;obtain⟨_,_,_,_,_,_,_,d_I64⟩:=t
 unfold nf at h;try dsimp only at h
 cbv;obtain⟨l1,hl1,h⟩:=ag h;try dsimp only at h
 refine ANew.mk (d_I64 l1) (dlen (d_I64 l1)) (by rw[←hl1];exact dR hg ht []) (by rw[←hl1];exact dj hg ht []) ?_;cbv;obtain⟨hc1,h⟩:=ak h;refine AStep.mk (ig hg ht (am hg ht _) (vQ hg ht _) hc1) ?_;cbv;obtain⟨l2,hl2,h⟩:=ag h;try dsimp only at h
 refine ANew.mk (d_I64 l2) (dlen (d_I64 l2)) (by rw[←hl2];exact na hg ht (am hg ht _) (vQ hg ht _)) (by rw[←hl2];exact kE hg ht (am hg ht _) (vQ hg ht _)) ?_;cbv;obtain rfl:=Option.some.inj h;exact ARet.mk ⟨rfl,(am hg ht _)⟩ hX.symm
def Ee:J:=js [jq 7 (.box 0),jq 14 (.mv (.k (.c (.n 1))))] [1,2,3,4,5,6,7] (js [jm 21 5,jc 22 152 [21],jm 15 22] [1,2,3,4,5,6,7,15] (.seq (js [jm 16 (ki 0)] [1,2,3,4,5,6,7,15,16] (.bl 0 (.seq (js [jm 23 16,jf 24 0 7,jk 25 24,jq 26 (.len false 25),jb 27 .lss .i 23 26] [1,2,3,4,5,6,7,15,16,27] (.cond 27 .skip (.exit 0))) (.seq (.block 1 (js [jm 30 4,jf 31 0 7,jk 32 31,jm 33 16,ja 34 6 32 33,jf 35 0 34,jk 36 35,jc 37 59 [30,36],jm 17 37] [1,2,3,4,5,6,7,15,16,17] (js [jm 38 4,jf 39 0 7,jk 40 39,jm 41 16,ja 42 6 40 41,jf 43 1 42,jk 44 43,jc 45 59 [38,44],jm 18 45] [1,2,3,4,5,6,7,15,16,17,18] (.seq (js [jm 46 5,jm 47 17,ja 48 1 46 47,jk 49 48,jb 50 .lss .i 49 (ki 0)] [1,2,3,4,5,6,7,15,16,17,18,50] (.cond 50 (.exit 1) .skip)) (.seq (.reg (some [[],[],[],[],[],[],[],[5,6],[5,6,7],[],[],[9,10],[4,5,6,7,8,9,10,11],[],[0,1,2,3,4,5,6,7,8,9,10,11,12,13],[0,1,2,3,4,5,6,7,8,9,10,11,12,13,14]]) [jl 51 3 7,jm 52 1,jm 53 2,jm 54 16,jl 55 3 7,jm 56 5,jm 57 17,ja 58 1 56 57,jk 59 58,jm 60 17,jm 61 6,jb 62 .eql .i 60 61,jc 63 117 [55,59,62],jm 64 3,jc 65 130 [51,52,53,54,63,64],jm 19 65] [1,2,3,4,5,6,7,15,16,18,19]) (.seq (js [jm 66 19,jb 67 .lss .i 66 (ki 0)] [1,2,3,4,5,6,7,15,16,18,19,67] (.cond 67 (.exit 1) .skip)) (js [jl 68 3 7,jm 69 16,jm 70 19,jq 71 (.bld [.r (.v (.int .i64 0)),.r (.v (.int .i64 0))] [(0,1,69),(1,1,70)]),jc 72 118 [68,71],jm 20 72] [1,2,3,4,5,6,7,15,16,18,20] (js [jm 73 15,jm 74 18,ja 75 1 73 74,jk 76 75,jb 77 .lss .i 76 (ki 0),jm 78 77,jv 79 78 (.mv 20),jv 80 78 (.mv 15),jv 81 78 (.mv 18),jv 82 78 (.ia 1 80 81),jv 83 78 (.ld false 1 82),jv 84 78 (.bin .lss .i 79 83),jq 85 (.pick 78 kt 84)] [1,2,3,4,5,6,7,15,16,18,20,85] (.cond 85 (.reg none [jm 86 15,jm 87 18,jm 88 20,ja 89 1 86 87,jp (.st 1 89 88)] [1,2,3,4,5,6,7,15,16]) .skip))))))))) (.reg none [jm 28 16,jb 29 .add .i 28 (ki 1),jm 16 29] [1,2,3,4,5,6,7,15,16]))))) (js [jm 90 15,jm 14 90] [14] .ret)))
def Ex:List RV:=[.t 14]
def bu (g:G) (t:TE) (a0:Network) (a1:List Booking) (a2:List Trip) (a3:Int) (a4:List ByteArray) (a5:List Int) (a6:Int):List Leg→Int→List Int→Option (List Int)
 |[],v1,w1=>
  some w1
 |z1::ls1,v1,w1=>
  lP (dD g t a4 z1.From) fun x2=>
  lP (dD g t a4 z1.To) fun x3=>
  gd (((0:Int)≤x2))<|
  gt a5 (g.nat x2) fun x4=>
  br (g.lt x4 0)
  (
   bu g t a0 a1 a2 a3 a4 a5 a6 ls1 (g.wrap .i64 (g.add v1 1)) w1)
  (
   gd (((0:Int)≤x2))<|
   lP (fy g t a0 x4 (g.eq x2 a6)) fun x5=>
   cl (iS g t a0 a1 a2 v1 x5 a3) fun x6=>
   br (g.lt x6 0)
   (
    bu g t a0 a1 a2 a3 a4 a5 a6 ls1 (g.wrap .i64 (g.add v1 1)) w1)
   (
    cl (jz g t a0 (Trip.mk v1 x6)) fun x7=>
    gd (((0:Int)≤x3∧x3<(((g.dlen (t.d_I64 w1)):Nat):Int)))<|
    gt w1 (g.nat x3) fun x8=>
    br (g.lt x8 0)
    (
     gd (((0:Int)≤x3∧x3<(((g.dlen (t.d_I64 w1)):Nat):Int)))<|
     lP (List.set w1 (g.nat x3) x7) fun(l1:List Int)=>
     bu g t a0 a1 a2 a3 a4 a5 a6 ls1 (g.wrap .i64 (g.add v1 1)) l1)
    (
     gd (((0:Int)≤x3∧x3<(((g.dlen (t.d_I64 w1)):Nat):Int)))<|
     br (g.lt x7 x8)
     (
      gd (((0:Int)≤x3∧x3<(((g.dlen (t.d_I64 w1)):Nat):Int)))<|
      lP (List.set w1 (g.nat x3) x7) fun(l2:List Int)=>
      bu g t a0 a1 a2 a3 a4 a5 a6 ls1 (g.wrap .i64 (g.add v1 1)) l2)
     (
      bu g t a0 a1 a2 a3 a4 a5 a6 ls1 (g.wrap .i64 (g.add v1 1)) w1))))
def lm (g:G) (t:TE) (a0:Network) (a1:List Booking) (a2:List Trip) (a3:Int) (a4:List ByteArray) (a5:List Int) (a6:Int):Option (List Int):=
 cl (nf g t a5) fun x1=>
 cl (bu g t a0 a1 a2 a3 a4 a5 a6 a0.Legs 0 x1) fun y1=>
 some y1
theorem vD {g:G} {t:TE} {a0:Network} {a1:List Booking} {a2:List Trip} {a3:Int} {a4:List ByteArray} {a5:List Int} {a6:Int} {r:List Int} (hg:g=G.real) (ht:t=TE.real) (h:lm g t a0 a1 a2 a3 a4 a5 a6=some r):Fn Tryz.prog 129 [.g (Network.rs t a0),.c (.s 4 (t.r_Booking a1)),.c (.s 2 (t.r_Trip a2)),.c (.v (.int .i64 a3)),.c (.s 1 (t.r_S a4)),.c (.s 1 (t.r_I64 a5)),.c (.v (.int .i64 a6))] (.c (.o 1 (t.d_I64 r))):=by
 obtain⟨X,hX⟩:=aJ (.c (.o 1 (t.d_I64 r)):X);rw[←hX];refine aE (rvs:=Ex) (j:=Ee) Tryz.func129 rfl (by kernel_rfl) (nb rfl) (by kernel_rfl) ac ?_;intro g2 F hg2 hF;obtain rfl:g2=g:=hg2.unique.trans hg.symm;clear hg2;obtain⟨wrap,lt,_,_,_,_,_,_,_,_,_,_,_,add,_,_,_,_,_,_,_,llen,_,_,dlen⟩:=g2;obtain⟨_,_,_,_,r_Leg,_,r_I64,d_I64,r_Trip,_,r_Booking,_,r_S⟩:=t
 obtain⟨a0_Legs,a0_Off,a0_Change⟩:=a0;unfold lm at h;try dsimp only at h
 cbv;obtain⟨x1,hx1,h⟩:=ae h;try dsimp only at h
 refine ACall.mk _ _ rfl (hF _ _ _ (vS hg ht hx1)) (.inl rfl) (nb rfl) ?_;cbv;obtain⟨o1,ho1,h⟩:=ae h;try dsimp only at h
 try rw[hg] at ho1
 try rw[ht] at ho1
 refine ABL.mk {p:Nat×Int×List Int//p.1≤a0_Legs.length∧p.2.1=((p.1:Nat):Int)∧bu G.real TE.real (Network.mk a0_Legs a0_Off a0_Change) a1 a2 a3 a4 a5 a6 (List.drop p.1 a0_Legs) p.2.1 p.2.2=some o1} (fun⟨⟨k1,v1,w1⟩,_⟩=>({sl:=[(1,.c (.r (.s 4 (r_Booking a1)))),(2,.c (.r (.s 2 (r_Trip a2)))),(3,.c (.r (.v (.int .i64 a3)))),(4,.c (.r (.s 1 (r_S a4)))),(5,.c (.r (.s 1 (r_I64 a5)))),(6,.c (.r (.v (.int .i64 a6)))),(7,.c (.p 0 3 0 0)),(15,.c (.f 1 1 0 (dlen (d_I64 w1)))),(16,.c (.r (.v (.int .i64 v1))))],tab:=[(0,some (.foc 3 [] [.r (.s 6 (r_Leg a0_Legs)),.r (.s 1 (r_I64 a0_Off)),.r (.v (.int .i64 a0_Change))] [])),(1,some (.arr 1 (d_I64 w1)))]}:St)) 2 (fun p=>a0_Legs.length-p.1.1) ⟨(0,0,x1),Nat.zero_le _,rfl,ho1⟩ (List Int) (fun y1=>({sl:=[(15,.c (.f 0 1 0 (dlen (d_I64 y1))))],tab:=[(0,some (.arr 1 (d_I64 y1)))]}:St)) 1 (fun y=>o1=y) ?_ ?_ ?_
 ·refine Wk.of [(0,some 0),(1,some 48)] rfl rfl ?_ ?_
  ·cbv;all_goals exact⟨⟨_,rfl,rfl⟩,⟨_,rfl,rfl⟩,⟨_,rfl,rfl⟩,⟨_,rfl,rfl⟩,⟨_,rfl,rfl⟩,⟨_,rfl,rfl⟩,⟨_,rfl,rfl⟩,⟨_,rfl,rfl⟩,⟨_,rfl,rfl⟩,trivial⟩
  cbv;all_goals exact⟨⟨_,rfl,_,rfl,rfl,rfl,rfl,trivial⟩,⟨_,rfl,rfl⟩,trivial⟩
 ·rintro⟨⟨k1,v1,w1⟩,hk1,hi1,h_1⟩ hq1;have hm1:=(hq1.2.2.1 0 _ _ _ _ 0 _ _ rfl rfl);try dsimp only at hk1 hi1 h_1
  clear hq1;cbv
  by_cases hc1_:k1<a0_Legs.length
  ·have hb1:lt v1 (llen (r_Leg a0_Legs))=true:=dW hg ht hi1 hc1_;have hs1:=gk hg ht hi1 hc1_ hm1;obtain⟨z1,hz1⟩:=av hc1_;rw[aq hz1] at h_1;rw[bu] at h_1;obtain⟨z1_From,z1_To,z1_Start,z1_Takes,z1_Days,z1_Room⟩:=z1;try rw[←hg] at h_1
   try rw[←ht] at h_1
   try dsimp only at h_1
   rw[hb1];cbv;refine AStep.mk (d8 hi1) ?_;cbv;refine AGet.mk _ (dU hg ht hi1 hz1) ?_;cbv;obtain⟨x2,hx2,h_1⟩:=ag h_1;try dsimp only at h_1
   refine ACall.mk _ _ rfl (hF _ _ _ (eF hg ht hx2)) (.inl rfl) (nb rfl) ?_;cbv;refine AStep.mk (d8 hi1) ?_;cbv;refine AGet.mk _ (dU hg ht hi1 hz1) ?_;cbv;obtain⟨x3,hx3,h_1⟩:=ag h_1;try dsimp only at h_1
   refine ACall.mk _ _ rfl (hF _ _ _ (eF hg ht hx3)) (.inl rfl) (nb rfl) ?_;cbv;obtain⟨hc1,h_1⟩:=ak h_1;refine AStep.mk hc1 ?_;cbv;obtain⟨x4,hx4,h_1⟩:=aV h_1;try dsimp only at h_1
   refine AGet.mk _ (d7 hg ht hx4) ?_;cbv
   cases hb2:(lt x4 0)
   rotate_left
   ·rw[ab hb2] at h_1;cbv;try rw[hg] at h_1
    try rw[ht] at h_1
    refine⟨⟨(k1+1,(wrap .i64 (add v1 1)),w1),hc1_,hs1,h_1⟩,Wk.of [(0,some 0),(1,some 1)] rfl rfl ?_ ?_,aB hc1_⟩
    ·cbv;all_goals exact⟨⟨_,rfl,rfl⟩,⟨_,rfl,rfl⟩,⟨_,rfl,rfl⟩,⟨_,rfl,rfl⟩,⟨_,rfl,rfl⟩,⟨_,rfl,rfl⟩,⟨_,rfl,rfl⟩,⟨_,rfl,rfl⟩,⟨_,rfl,rfl⟩,trivial⟩
    cbv;all_goals exact⟨⟨_,rfl,_,rfl,rfl,rfl,rfl,trivial⟩,⟨_,rfl,rfl⟩,trivial⟩
   rw[aa hb2] at h_1;cbv;obtain⟨hc2,h_1⟩:=ak h_1;refine AStep.mk hc2 ?_;cbv;refine AGet.mk _ (d7 hg ht hx4) ?_;cbv;obtain⟨x5,hx5,h_1⟩:=ag h_1;try dsimp only at h_1
   refine ACall.mk _ _ rfl (hF _ _ _ (oK hg ht hx5)) (.inl rfl) (nb rfl) ?_;cbv;obtain⟨x6,hx6,h_1⟩:=ae h_1;try dsimp only at h_1
   refine ACall.mk _ _ rfl (hF _ _ _ (qS hg ht hx6)) (.inl rfl) (nb rfl) ?_;cbv
   cases hb3:(lt x6 0)
   rotate_left
   ·rw[ab hb3] at h_1;cbv;try rw[hg] at h_1
    try rw[ht] at h_1
    refine⟨⟨(k1+1,(wrap .i64 (add v1 1)),w1),hc1_,hs1,h_1⟩,Wk.of [(0,some 0),(1,some 1)] rfl rfl ?_ ?_,aB hc1_⟩
    ·cbv;all_goals exact⟨⟨_,rfl,rfl⟩,⟨_,rfl,rfl⟩,⟨_,rfl,rfl⟩,⟨_,rfl,rfl⟩,⟨_,rfl,rfl⟩,⟨_,rfl,rfl⟩,⟨_,rfl,rfl⟩,⟨_,rfl,rfl⟩,⟨_,rfl,rfl⟩,trivial⟩
    cbv;all_goals exact⟨⟨_,rfl,_,rfl,rfl,rfl,rfl,trivial⟩,⟨_,rfl,rfl⟩,trivial⟩
   rw[aa hb3] at h_1;cbv;obtain⟨x7,hx7,h_1⟩:=ae h_1;try dsimp only at h_1
   refine ACall.mk _ _ rfl (hF _ _ _ (qu hg ht hx7)) (.inl rfl) (nb rfl) ?_;cbv;obtain⟨hc3,h_1⟩:=ak h_1;refine AStep.mk hc3 ?_;cbv;obtain⟨x8,hx8,h_1⟩:=aV h_1;try dsimp only at h_1
   refine AGet.mk _ (bn hg ht hx8) ?_;cbv
   cases hb4:(lt x8 0)
   rotate_left
   ·rw[ab hb4] at h_1;cbv;iterate 6 try(rw[hb4];cbv)
    obtain⟨hc4,h_1⟩:=ak h_1;refine AStep.mk hc4 ?_;cbv;refine AGet.mk _ (bn hg ht hx8) ?_;cbv;obtain⟨l1,hl1,h_1⟩:=ag h_1;try dsimp only at h_1
    refine ANew.mk (d_I64 l1) _ (by rw[←hl1];exact kS hg ht _ _ x7) rfl ?_;have hnl1:(dlen (d_I64 w1))=(d_I64 l1).length:=(by rw[←hl1,iR ht];exact(am hg ht _));cbv;try rw[hg] at h_1
    try rw[ht] at h_1
    refine⟨⟨(k1+1,(wrap .i64 (add v1 1)),l1),hc1_,hs1,h_1⟩,Wk.of [(0,some 0),(1,some 1)] rfl rfl ?_ ?_,aB hc1_⟩
    ·cbv;all_goals try rw[show(dlen (d_I64 w1))=(dlen (d_I64 l1)) from(hnl1).trans (am hg ht _).symm]
     all_goals exact⟨⟨_,rfl,rfl⟩,⟨_,rfl,rfl⟩,⟨_,rfl,rfl⟩,⟨_,rfl,rfl⟩,⟨_,rfl,rfl⟩,⟨_,rfl,rfl⟩,⟨_,rfl,rfl⟩,⟨_,rfl,rfl⟩,⟨_,rfl,rfl⟩,trivial⟩
    cbv;all_goals try rw[show(dlen (d_I64 w1))=(dlen (d_I64 l1)) from(hnl1).trans (am hg ht _).symm]
    all_goals exact⟨⟨_,rfl,_,rfl,rfl,rfl,rfl,trivial⟩,⟨_,rfl,rfl⟩,trivial⟩
   rw[aa hb4] at h_1;cbv;iterate 3 try(rw[hb4];cbv)
   obtain⟨hc5,h_1⟩:=ak h_1;refine AStep.mk hc5 ?_;cbv;try(rw[hb4];cbv)
   refine AGet.mk _ (bn hg ht hx8) ?_;cbv;iterate 2 try(rw[hb4];cbv)
   cases hb5:(lt x7 x8)
   ·rw[aa hb5] at h_1;cbv;try rw[hg] at h_1
    try rw[ht] at h_1
    refine⟨⟨(k1+1,(wrap .i64 (add v1 1)),w1),hc1_,hs1,h_1⟩,Wk.of [(0,some 0),(1,some 1)] rfl rfl ?_ ?_,aB hc1_⟩
    ·cbv;all_goals exact⟨⟨_,rfl,rfl⟩,⟨_,rfl,rfl⟩,⟨_,rfl,rfl⟩,⟨_,rfl,rfl⟩,⟨_,rfl,rfl⟩,⟨_,rfl,rfl⟩,⟨_,rfl,rfl⟩,⟨_,rfl,rfl⟩,⟨_,rfl,rfl⟩,trivial⟩
    cbv;all_goals exact⟨⟨_,rfl,_,rfl,rfl,rfl,rfl,trivial⟩,⟨_,rfl,rfl⟩,trivial⟩
   rw[ab hb5] at h_1;cbv;obtain⟨hc6,h_1⟩:=ak h_1;refine AStep.mk hc6 ?_;cbv;refine AGet.mk _ (bn hg ht hx8) ?_;cbv;obtain⟨l2,hl2,h_1⟩:=ag h_1;try dsimp only at h_1
   refine ANew.mk (d_I64 l2) _ (by rw[←hl2];exact kS hg ht _ _ x7) rfl ?_;have hnl2:(dlen (d_I64 w1))=(d_I64 l2).length:=(by rw[←hl2,iR ht];exact(am hg ht _));cbv;try rw[hg] at h_1
   try rw[ht] at h_1
   refine⟨⟨(k1+1,(wrap .i64 (add v1 1)),l2),hc1_,hs1,h_1⟩,Wk.of [(0,some 0),(1,some 1)] rfl rfl ?_ ?_,aB hc1_⟩
   ·cbv;all_goals try rw[show(dlen (d_I64 w1))=(dlen (d_I64 l2)) from(hnl2).trans (am hg ht _).symm]
    all_goals exact⟨⟨_,rfl,rfl⟩,⟨_,rfl,rfl⟩,⟨_,rfl,rfl⟩,⟨_,rfl,rfl⟩,⟨_,rfl,rfl⟩,⟨_,rfl,rfl⟩,⟨_,rfl,rfl⟩,⟨_,rfl,rfl⟩,⟨_,rfl,rfl⟩,trivial⟩
   cbv;all_goals try rw[show(dlen (d_I64 w1))=(dlen (d_I64 l2)) from(hnl2).trans (am hg ht _).symm]
   all_goals exact⟨⟨_,rfl,_,rfl,rfl,rfl,rfl,trivial⟩,⟨_,rfl,rfl⟩,trivial⟩
  have hb1:lt v1 (llen (r_Leg a0_Legs))=false:=dn hg ht hi1 hc1_;rw[List.drop_of_length_le (Nat.le_of_not_lt hc1_)] at h_1;rw[bu] at h_1;try rw[←hg] at h_1
  try rw[←ht] at h_1
  try dsimp only at h_1
  rw[hb1];cbv;refine⟨w1,Wk.of [(0,some 1)] rfl rfl ?_ ?_,(Option.some.inj h_1).symm⟩
  ·cbv;all_goals exact⟨⟨_,rfl,rfl⟩,trivial⟩
  cbv;all_goals exact⟨⟨_,rfl,rfl⟩,trivial⟩
 rintro y1 hy1;replace hy1:=hy1.symm;subst hy1;try dsimp only[lr,lrL,lrp,aH] at h
 cbv;obtain rfl:=Option.some.inj h;exact ARet.mk ⟨rfl,(am hg ht _)⟩ hX.symm
def ir74:J:=js [jq 7 (.box 0),jq 14 (.mv (.k (.c (.n 1))))] [1,2,3,4,5,6,7] (js [jl 19 3 7,jc 20 58 [19],jm 15 20] [1,2,3,4,5,6,7,15] (js [jm 21 15,jm 22 3,jc 23 59 [21,22],jm 16 23] [1,2,4,5,6,7,15,16] (.seq (js [jl 24 3 7,jm 25 1,jc 26 128 [24,25],jq 27 (.not 26),jm 28 27,jv 29 28 (.mv 16),jv 30 28 (.bin .lss .i 29 (ki 0)),jq 31 (.pick 28 kt 30),jm 32 31,jv 33 32 (.mv 4),jv 34 32 (.bin .gtr .i 33 (ki 100000)),jq 35 (.pick 32 kt 34),jm 36 35,jv 37 36 (.mv 5),jv 38 36 (.bin .lss .i 37 (ki 1)),jq 39 (.pick 36 kt 38),jm 40 39,jv 41 40 (.mv 6),jv 42 40 (.bin .lss .i 41 (ki 0)),jq 43 (.pick 40 kt 42)] [1,2,4,5,6,7,15,16,43] (.cond 43 (js [jq 44 (.bsl 1 []),jm 14 44] [14] .ret) .skip)) (js [jm 45 15,jm 46 16,jm 47 4,jc 48 114 [45,46,47],jm 17 48] [1,2,5,6,7,15,16,17] (.seq (js [jm 18 (ki 0)] [1,2,5,6,7,15,16,17,18] (.bl 0 (.seq (js [jm 49 18,jm 50 6,jb 51 .lss .i 49 50,jm 52 51,ju 53 52 (.mv 18),ju 54 52 (.mv 15),ju 55 52 (.len false 54),ju 56 52 (.bin .lss .i 53 55),jq 57 (.pick 52 56 kf)] [1,2,5,6,7,15,16,17,18,57] (.cond 57 .skip (.exit 0))) (.seq (.block 1 (.reg none [jl 60 3 7,jm 61 1,jm 62 2,jm 63 5,jm 64 15,jm 65 17,jm 66 16,jc 67 129 [60,61,62,63,64,65,66],jm 17 67] [1,2,5,6,7,15,16,17,18])) (.reg none [jm 58 18,jb 59 .add .i 58 (ki 1),jm 18 59] [1,2,5,6,7,15,16,17,18]))))) (js [jm 68 17,jm 14 68] [14] .ret))))))
def rv74:List RV:=[.t 14]
def cF (g:G) (t:TE) (a0:Network) (a1:List Booking) (a2:List Trip) (a5:Int) (x1:List ByteArray) (x2:Int):Nat→Int→List Int→Option (List Int)
 |0,v1,w1=>
  some w1
 |n1+1,v1,w1=>
  br (g.lt v1 (g.int (g.dlen (t.d_S x1))))
  (
   cl (lm g t a0 a1 a2 a5 x1 w1 x2) fun x5=>
   cF g t a0 a1 a2 a5 x1 x2 n1 (g.wrap .i64 (g.add v1 1)) x5)
  (
   some w1)
def bV (g:G) (t:TE) (a0:Network) (a1:List Booking) (a2:List Trip) (a3:ByteArray) (a4:Int) (a5:Int) (a6:Int):Option (List Int):=
 cl (fw g t a0) fun x1=>
 lP (dD g t x1 a3) fun x2=>
 cl (dq g t a0 a1) fun x3=>
 br x3
 (
  br (g.lt x2 0)
  (
   lP ([]) fun(l1:List Int)=>
   some l1)
  (
   br (g.lt 100000 a4)
   (
    lP ([]) fun(l2:List Int)=>
    some l2)
   (
    br (g.lt a5 1)
    (
     lP ([]) fun(l3:List Int)=>
     some l3)
    (
     br (g.lt a6 0)
     (
      lP ([]) fun(l4:List Int)=>
      some l4)
     (
      cl (iX g t x1 x2 a4) fun x4=>
      gd ((a6≤9223372036854775807))<|
      cl (cF g t a0 a1 a2 a5 x1 x2 (aW 0 a6) 0 x4) fun y1=>
      some y1)))))
 (
  lP ([]) fun(l5:List Int)=>
  some l5)
theorem jH {g:G} {t:TE} {a0:Network} {a1:List Booking} {a2:List Trip} {a3:ByteArray} {a4:Int} {a5:Int} {a6:Int} {r:List Int} (hg:g=G.real) (ht:t=TE.real) (h:bV g t a0 a1 a2 a3 a4 a5 a6=some r):Fn Tryz.prog 74 [.g (Network.rs t a0),.c (.s 4 (t.r_Booking a1)),.c (.s 2 (t.r_Trip a2)),.c (.v (.string a3)),.c (.v (.int .i64 a4)),.c (.v (.int .i64 a5)),.c (.v (.int .i64 a6))] (.c (.o 1 (t.d_I64 r))):=by
 obtain⟨X,hX⟩:=aJ (.c (.o 1 (t.d_I64 r)):X);rw[←hX];refine aE (rvs:=rv74) (j:=ir74) Tryz.func74 rfl (by kernel_rfl) (nb rfl) (by kernel_rfl) ac ?_;intro g2 F hg2 hF;obtain rfl:g2=g:=hg2.unique.trans hg.symm;clear hg2;obtain⟨wrap,lt,_,_,_,_,_,_,_,_,_,_,int,add,_,_,_,_,_,_,_,_,_,_,dlen,_,_,_,rd⟩:=g2;obtain⟨_,_,_,_,r_Leg,_,r_I64,d_I64,r_Trip,_,r_Booking,_,r_S,d_S⟩:=t
 obtain⟨a0_Legs,a0_Off,a0_Change⟩:=a0;have hfr_I64:∀l,cz (d_I64 l)=true:=yT ht;unfold bV at h;try dsimp only at h
 cbv;obtain⟨x1,hx1,h⟩:=ae h;try dsimp only at h
 refine ACall.mk _ _ rfl (hF _ _ _ (j8 hg ht hx1)) (.inl rfl) (nb rfl) ?_;cbv;refine AStep.mk (eU ht (ap hg ht _)) ?_;cbv;obtain⟨x2,hx2,h⟩:=ag h;try dsimp only at h
 refine ACall.mk _ _ (by rw[show rd (d_S x1) 0 (dlen (d_S x1))=r_S x1 from gL hg ht (ap hg ht _)];try rfl) (hF _ _ _ (eF hg ht hx2)) (.inr rfl) (nb rfl) ?_
 cbv;obtain⟨x3,hx3,h⟩:=ae h;try dsimp only at h
 refine ACall.mk _ _ rfl (hF _ _ _ (gF hg ht hx3)) (.inl rfl) (nb rfl) ?_;cbv
 cases hb1:x3
 ·rw[aa hb1] at h;cbv;iterate 2 try(rw[hb1];cbv)
  obtain⟨l5,hl5,h⟩:=ag h;try dsimp only at h
  refine ANew.mk (d_I64 l5) (dlen (d_I64 l5)) (by rw[←hl5];exact dR hg ht []) (by rw[←hl5];exact dj hg ht []) ?_;cbv;obtain rfl:=Option.some.inj h;exact ARet.mk ⟨rfl,(am hg ht _)⟩ hX.symm
 rw[ab hb1] at h;cbv;iterate 2 try(rw[hb1];cbv)
 cases hb2:(lt x2 0)
 rotate_left
 ·rw[ab hb2] at h;cbv;iterate 2 try(rw[hb2];cbv)
  obtain⟨l1,hl1,h⟩:=ag h;try dsimp only at h
  refine ANew.mk (d_I64 l1) (dlen (d_I64 l1)) (by rw[←hl1];exact dR hg ht []) (by rw[←hl1];exact dj hg ht []) ?_;cbv;obtain rfl:=Option.some.inj h;exact ARet.mk ⟨rfl,(am hg ht _)⟩ hX.symm
 rw[aa hb2] at h;cbv;iterate 2 try(rw[hb2];cbv)
 cases hb3:(lt 100000 a4)
 rotate_left
 ·rw[ab hb3] at h;cbv;iterate 2 try(rw[hb3];cbv)
  obtain⟨l2,hl2,h⟩:=ag h;try dsimp only at h
  refine ANew.mk (d_I64 l2) (dlen (d_I64 l2)) (by rw[←hl2];exact dR hg ht []) (by rw[←hl2];exact dj hg ht []) ?_;cbv;obtain rfl:=Option.some.inj h;exact ARet.mk ⟨rfl,(am hg ht _)⟩ hX.symm
 rw[aa hb3] at h;cbv;iterate 2 try(rw[hb3];cbv)
 cases hb4:(lt a5 1)
 rotate_left
 ·rw[ab hb4] at h;cbv;iterate 2 try(rw[hb4];cbv)
  obtain⟨l3,hl3,h⟩:=ag h;try dsimp only at h
  refine ANew.mk (d_I64 l3) (dlen (d_I64 l3)) (by rw[←hl3];exact dR hg ht []) (by rw[←hl3];exact dj hg ht []) ?_;cbv;obtain rfl:=Option.some.inj h;exact ARet.mk ⟨rfl,(am hg ht _)⟩ hX.symm
 rw[aa hb4] at h;cbv;iterate 2 try(rw[hb4];cbv)
 cases hb5:(lt a6 0)
 rotate_left
 ·rw[ab hb5] at h;cbv;obtain⟨l4,hl4,h⟩:=ag h;try dsimp only at h
  refine ANew.mk (d_I64 l4) (dlen (d_I64 l4)) (by rw[←hl4];exact dR hg ht []) (by rw[←hl4];exact dj hg ht []) ?_;cbv;obtain rfl:=Option.some.inj h;exact ARet.mk ⟨rfl,(am hg ht _)⟩ hX.symm
 rw[aa hb5] at h;cbv;refine AStep.mk (eU ht (ap hg ht _)) ?_;cbv;obtain⟨x4,hx4,h⟩:=ae h;try dsimp only at h
 refine ACall.mk _ _ (by rw[show rd (d_S x1) 0 (dlen (d_S x1))=r_S x1 from gL hg ht (ap hg ht _)];try rfl) (hF _ _ _ (uU hg ht hx4)) (.inr (by simp only[Go.Vs.X.fresh,Go.Vs.X.freshs,fq,cr,Bool.and_self,hfr_I64])) (nb rfl) ?_
 cbv;obtain⟨hB1,h⟩:=ak h;obtain⟨o1,ho1,h⟩:=ae h;try dsimp only at h
 try rw[hg] at ho1
 try rw[ht] at ho1
 refine ABL.mk {p:Nat×Int×List Int//p.1=aW p.2.1 a6∧0≤p.2.1∧cF G.real TE.real (Network.mk a0_Legs a0_Off a0_Change) a1 a2 a5 x1 x2 p.1 p.2.1 p.2.2=some o1} (fun⟨⟨n1,v1,w1⟩,_⟩=>({sl:=[(1,.c (.r (.s 4 (r_Booking a1)))),(2,.c (.r (.s 2 (r_Trip a2)))),(5,.c (.r (.v (.int .i64 a5)))),(6,.c (.r (.v (.int .i64 a6)))),(7,.c (.p 0 3 0 0)),(15,.c (.f 1 1 0 (dlen (d_S x1)))),(16,.c (.r (.v (.int .i64 x2)))),(17,.c (.f 2 1 0 (dlen (d_I64 w1)))),(18,.c (.r (.v (.int .i64 v1))))],tab:=[(0,some (.foc 3 [] [.r (.s 6 (r_Leg a0_Legs)),.r (.s 1 (r_I64 a0_Off)),.r (.v (.int .i64 a0_Change))] [])),(1,some (.arr 1 (d_S x1))),(2,some (.arr 1 (d_I64 w1)))]}:St)) 3 (fun p=>p.1.1) ⟨(aW 0 a6,0,x4),rfl,Int.le_refl _,ho1⟩ (List Int) (fun y1=>({sl:=[(17,.c (.f 0 1 0 (dlen (d_I64 y1))))],tab:=[(0,some (.arr 1 (d_I64 y1)))]}:St)) 1 (fun y=>o1=y) ?_ ?_ ?_
 ·refine Wk.of [(0,some 0),(1,some 48),(2,some 512)] rfl rfl ?_ ?_
  ·cbv;all_goals exact⟨⟨_,rfl,rfl⟩,⟨_,rfl,rfl⟩,⟨_,rfl,rfl⟩,⟨_,rfl,rfl⟩,⟨_,rfl,rfl⟩,⟨_,rfl,rfl⟩,⟨_,rfl,rfl⟩,⟨_,rfl,rfl⟩,⟨_,rfl,rfl⟩,trivial⟩
  cbv;all_goals exact⟨⟨_,rfl,_,rfl,rfl,rfl,rfl,trivial⟩,⟨_,rfl,rfl⟩,⟨_,rfl,rfl⟩,trivial⟩
 ·rintro⟨⟨n1,v1,w1⟩,hn1,hi1,h_1⟩ hq1;try dsimp only at hn1 hi1 h_1
  clear hq1;cbv;rcases n1 with _|n1
  ·have hb6:lt v1 a6=false:=eG hg hn1;rw[cF] at h_1;try rw[←hg] at h_1
   try rw[←ht] at h_1
   try dsimp only at h_1
   rw[hb6];cbv;iterate 4 try(rw[hb6];cbv)
   refine⟨w1,Wk.of [(0,some 2)] rfl rfl ?_ ?_,(Option.some.inj h_1).symm⟩
   ·cbv;all_goals exact⟨⟨_,rfl,rfl⟩,trivial⟩
   cbv;all_goals exact⟨⟨_,rfl,rfl⟩,trivial⟩
  have hb6:lt v1 a6=true:=fM hg hn1;have hl1:=jI hn1;have hs1:=gU hg hn1 hi1 hB1 (by decide);rw[cF] at h_1;try rw[←hg] at h_1
  try rw[←ht] at h_1
  try dsimp only at h_1
  rw[hb6];cbv;iterate 4 try(rw[hb6];cbv)
  cases hb7:(lt v1 (int (dlen (d_S x1))))
  ·rw[aa hb7] at h_1;cbv;refine⟨w1,Wk.of [(0,some 2)] rfl rfl ?_ ?_,(Option.some.inj h_1).symm⟩
   ·cbv;all_goals exact⟨⟨_,rfl,rfl⟩,trivial⟩
   cbv;all_goals exact⟨⟨_,rfl,rfl⟩,trivial⟩
  rw[ab hb7] at h_1;cbv;refine AStep.mk ⟨(eU ht (ap hg ht _)),(mN ht (am hg ht _))⟩ ?_;cbv;obtain⟨x5,hx5,h_1⟩:=ae h_1;try dsimp only at h_1
  refine ACall.mk _ _ (by rw[show rd (d_S x1) 0 (dlen (d_S x1))=r_S x1 from gL hg ht (ap hg ht _),show rd (d_I64 w1) 0 (dlen (d_I64 w1))=r_I64 w1 from ph hg ht (am hg ht _)];try rfl) (hF _ _ _ (vD hg ht hx5)) (.inr (by simp only[Go.Vs.X.fresh,Go.Vs.X.freshs,fq,cr,Bool.and_self,hfr_I64])) (nb rfl) ?_
  cbv;try rw[hg] at h_1
  try rw[ht] at h_1
  refine⟨⟨(n1,(wrap .i64 (add v1 1)),x5),hs1.1,hs1.2,h_1⟩,Wk.of [(0,some 0),(1,some 1),(2,some 259)] rfl rfl ?_ ?_,Nat.lt_succ_self _⟩
  ·cbv;all_goals exact⟨⟨_,rfl,rfl⟩,⟨_,rfl,rfl⟩,⟨_,rfl,rfl⟩,⟨_,rfl,rfl⟩,⟨_,rfl,rfl⟩,⟨_,rfl,rfl⟩,⟨_,rfl,rfl⟩,⟨_,rfl,rfl⟩,⟨_,rfl,rfl⟩,trivial⟩
  cbv;all_goals exact⟨⟨_,rfl,_,rfl,rfl,rfl,rfl,trivial⟩,⟨_,rfl,rfl⟩,⟨_,rfl,rfl⟩,trivial⟩
 rintro y1 hy1;replace hy1:=hy1.symm;subst hy1;try dsimp only[lr,lrL,lrp,aH] at h
 cbv;obtain rfl:=Option.some.inj h;exact ARet.mk ⟨rfl,(am hg ht _)⟩ hX.symm
def ir75:J:=js [jq 9 (.box 0),jq 18 (.alloc [.r (.v (.int .i64 0)),.r (.v (.int .i64 0))])] [1,2,3,4,5,6,7,8,9,18] (.seq (js [jm 19 (ki 0)] [1,2,3,4,5,6,7,8,9,18,19] (.bl 0 (.seq (js [jm 22 19,jf 23 0 9,jk 24 23,jq 25 (.len false 24),jb 26 .lss .i 22 25] [1,2,3,4,5,6,7,8,9,18,19,26] (.cond 26 .skip (.exit 0))) (.seq (.block 1 (js [jm 29 4,jf 30 0 9,jk 31 30,jm 32 19,ja 33 6 31 32,jf 34 0 33,jk 35 34,jc 36 59 [29,35],jm 20 36] [1,2,3,4,5,6,7,8,9,18,19,20] (.seq (.seq (.reg (some [[],[0],[],[0,1,2],[0,1,2,3],[0,1,2,3,4],[],[],[6,7],[6,7,8],[0,1,2,3,4,5,6,7,8,9],[0,1,2,3,4,5,6,7,8,9,10],[0,1,2,3,4,5,6,7,8,9,10,11],[0,1,2,3,4,5,6,7,8,9,10,11],[0,1,2,3,4,5,6,7,8,9,10,11,12,13],[0,1,2,3,4,5,6,7,8,9,10,11,12,13,14],[0,1,2,3,4,5,6,7,8,9,10,11,12,13,14,15],[0,1,2,3,4,5,6,7,8,9,10,11,12,13,14,15,16]]) [jf 37 0 9,jk 38 37,jm 39 19,ja 40 6 38 39,jf 41 1 40,jk 42 41,jm 43 4,jm 44 7,ja 45 1 43 44,jk 46 45,jb 47 .neq .s 42 46,jm 48 47,jv 49 48 (.mv 5),jv 50 48 (.mv 20),jv 51 48 (.ia 1 49 50),jv 52 48 (.ld false 1 51),jv 53 48 (.bin .lss .i 52 (ki 0)),jq 54 (.pick 48 kt 53)] [1,2,3,4,5,6,7,8,9,18,19,20,54]) (.cond 54 (.exit 1) .skip)) (.seq (.reg (some [[],[],[],[],[],[],[],[],[6,7],[6,7,8],[],[],[10,11],[5,6,7,8,9,10,11,12],[],[1,2,3,4,5,6,7,8,9,10,11,12,13,14],[0,1,2,3,4,5,6,7,8,9,10,11,12,13,14,15],[],[0,1,2,3,4,5,6,7,8,9,10,11,12,13,14,15,16,17]]) [jm 55 19,jl 56 3 9,jm 57 1,jm 58 2,jm 59 19,jl 60 3 9,jm 61 5,jm 62 20,ja 63 1 61 62,jk 64 63,jm 65 20,jm 66 6,jb 67 .eql .i 65 66,jc 68 117 [60,64,67],jm 69 3,jc 70 130 [56,57,58,59,68,69],jq 71 (.bld [.r (.v (.int .i64 0)),.r (.v (.int .i64 0))] [(0,1,55),(1,1,70)]),jq 21 (.alloc [.r (.v (.int .i64 0)),.r (.v (.int .i64 0))]),jp (.st 2 21 71)] [1,2,3,4,5,6,7,8,9,18,19,21]) (js [jf 72 1 21,jk 73 72,jb 74 .geq .i 73 (ki 0),jm 75 74,ju 76 75 (.ld true 3 9),ju 77 75 (.ld true 2 21),ju 78 75 (.call 118 true [76,77]),ju 79 75 (.mv 8),ju 80 75 (.bin .eql .i 78 79),jq 81 (.pick 75 80 kf)] [1,2,3,4,5,6,7,8,9,18,19,21,81] (.cond 81 (js [jl 82 2 21,jp (.st 2 18 82)] [18] .ret) .skip)))))) (.reg none [jm 27 19,jb 28 .add .i 27 (ki 1),jm 19 28] [1,2,3,4,5,6,7,8,9,18,19]))))) (js [jq 83 (.bld [.r (.v (.int .i64 0)),.r (.v (.int .i64 0))] []),jp (.st 2 18 83)] [18] .ret))
def rv75:List RV:=[.c 18 true 2]
def cg (g:G) (t:TE) (a0:Network) (a1:List Booking) (a2:List Trip) (a3:Int) (a4:List ByteArray) (a5:List Int) (a6:Int) (a7:Int) (a8:Int):List Leg→Int→Option (LR Trip Unit)
 |[],v1=>
  some (LR.out ())
 |z1::ls1,v1=>
  lP (dD g t a4 z1.From) fun x1=>
  gd (((0:Int)≤a7))<|
  gt a4 (g.nat a7) fun x2=>
  br (g.seq z1.To x2)
  (
   gd (((0:Int)≤x1))<|
   gt a5 (g.nat x1) fun x3=>
   br (g.lt x3 0)
   (
    cg g t a0 a1 a2 a3 a4 a5 a6 a7 a8 ls1 (g.wrap .i64 (g.add v1 1)))
   (
    gd (((0:Int)≤x1))<|
    lP (fy g t a0 x3 (g.eq x1 a6)) fun x4=>
    cl (iS g t a0 a1 a2 v1 x4 a3) fun x5=>
    br (g.le 0 x5)
    (
     cl (jz g t a0 (Trip.mk v1 x5)) fun x6=>
     br (g.eq x6 a8)
     (
      some (LR.ret (Trip.mk v1 x5)))
     (
      cg g t a0 a1 a2 a3 a4 a5 a6 a7 a8 ls1 (g.wrap .i64 (g.add v1 1))))
    (
     cg g t a0 a1 a2 a3 a4 a5 a6 a7 a8 ls1 (g.wrap .i64 (g.add v1 1)))))
  (
   cg g t a0 a1 a2 a3 a4 a5 a6 a7 a8 ls1 (g.wrap .i64 (g.add v1 1)))
def mF (g:G) (t:TE) (a0:Network) (a1:List Booking) (a2:List Trip) (a3:Int) (a4:List ByteArray) (a5:List Int) (a6:Int) (a7:Int) (a8:Int):Option Trip:=
 cl (cg g t a0 a1 a2 a3 a4 a5 a6 a7 a8 a0.Legs 0) fun o1=>lr o1 fun y1=>
 some (Trip.mk 0 0)
theorem wl {g:G} {t:TE} {a0:Network} {a1:List Booking} {a2:List Trip} {a3:Int} {a4:List ByteArray} {a5:List Int} {a6:Int} {a7:Int} {a8:Int} {r:Trip} (hg:g=G.real) (ht:t=TE.real) (h:mF g t a0 a1 a2 a3 a4 a5 a6 a7 a8=some r):Fn Tryz.prog 75 [.g (Network.rs t a0),.c (.s 4 (t.r_Booking a1)),.c (.s 2 (t.r_Trip a2)),.c (.v (.int .i64 a3)),.c (.s 1 (t.r_S a4)),.c (.s 1 (t.r_I64 a5)),.c (.v (.int .i64 a6)),.c (.v (.int .i64 a7)),.c (.v (.int .i64 a8))] (.g (Trip.ds t r)):=by
 obtain⟨X,hX⟩:=aJ (.g (Trip.ds t r):X);rw[←hX];refine aE (rvs:=rv75) (j:=ir75) Tryz.func75 rfl (by kernel_rfl) (nb rfl) (by kernel_rfl) ac ?_;intro g2 F hg2 hF;obtain rfl:g2=g:=hg2.unique.trans hg.symm;clear hg2;obtain⟨wrap,lt,le,eq,_,_,_,_,_,_,_,_,_,add,_,_,_,seq,_,_,_,llen⟩:=g2;obtain⟨_,_,_,_,r_Leg,_,r_I64,_,r_Trip,_,r_Booking,_,r_S⟩:=t
 obtain⟨a0_Legs,a0_Off,a0_Change⟩:=a0;unfold mF at h;try dsimp only at h
 cbv;obtain⟨o1,ho1,h⟩:=ae h;try dsimp only at h
 try rw[hg] at ho1
 try rw[ht] at ho1
 refine ABL.mk {p:Nat×Int//p.1≤a0_Legs.length∧p.2=((p.1:Nat):Int)∧cg G.real TE.real (Network.mk a0_Legs a0_Off a0_Change) a1 a2 a3 a4 a5 a6 a7 a8 (List.drop p.1 a0_Legs) p.2=some o1} (fun⟨⟨k1,v1⟩,_⟩=>({sl:=[(1,.c (.r (.s 4 (r_Booking a1)))),(2,.c (.r (.s 2 (r_Trip a2)))),(3,.c (.r (.v (.int .i64 a3)))),(4,.c (.r (.s 1 (r_S a4)))),(5,.c (.r (.s 1 (r_I64 a5)))),(6,.c (.r (.v (.int .i64 a6)))),(7,.c (.r (.v (.int .i64 a7)))),(8,.c (.r (.v (.int .i64 a8)))),(9,.c (.p 0 3 0 0)),(18,.c (.p 1 2 0 0)),(19,.c (.r (.v (.int .i64 v1))))],tab:=[(0,some (.foc 3 [] [.r (.s 6 (r_Leg a0_Legs)),.r (.s 1 (r_I64 a0_Off)),.r (.v (.int .i64 a0_Change))] [])),(1,some (.foc 2 [] [.r (.v (.int .i64 0)),.r (.v (.int .i64 0))] []))]}:St)) 2 (fun p=>a0_Legs.length-p.1.1) ⟨(0,0),Nat.zero_le _,rfl,ho1⟩ (Unit) (fun _=>({sl:=[(18,.c (.p 0 2 0 0))],tab:=[(0,some (.foc 2 [] [.r (.v (.int .i64 0)),.r (.v (.int .i64 0))] []))]}:St)) 1 (fun y=>o1=LR.out y) ?_ ?_ ?_
 ·refine Wk.of [(0,some 0),(1,some 16)] rfl rfl ?_ ?_
  ·cbv;all_goals exact⟨⟨_,rfl,rfl⟩,⟨_,rfl,rfl⟩,⟨_,rfl,rfl⟩,⟨_,rfl,rfl⟩,⟨_,rfl,rfl⟩,⟨_,rfl,rfl⟩,⟨_,rfl,rfl⟩,⟨_,rfl,rfl⟩,⟨_,rfl,rfl⟩,⟨_,rfl,rfl⟩,⟨_,rfl,rfl⟩,trivial⟩
  cbv;all_goals exact⟨⟨_,rfl,_,rfl,rfl,rfl,rfl,trivial⟩,⟨_,rfl,_,rfl,rfl,rfl,trivial⟩,trivial⟩
 ·rintro⟨⟨k1,v1⟩,hk1,hi1,h_1⟩ hq1;have hm1:=(hq1.2.2.1 0 _ _ _ _ 0 _ _ rfl rfl);try dsimp only at hk1 hi1 h_1
  clear hq1;cbv
  by_cases hc1_:k1<a0_Legs.length
  ·have hb1:lt v1 (llen (r_Leg a0_Legs))=true:=dW hg ht hi1 hc1_;have hs1:=gk hg ht hi1 hc1_ hm1;obtain⟨z1,hz1⟩:=av hc1_;rw[aq hz1] at h_1;rw[cg] at h_1;obtain⟨z1_From,z1_To,z1_Start,z1_Takes,z1_Days,z1_Room⟩:=z1;try rw[←hg] at h_1
   try rw[←ht] at h_1
   try dsimp only at h_1
   rw[hb1];cbv;refine AStep.mk (d8 hi1) ?_;cbv;refine AGet.mk _ (dU hg ht hi1 hz1) ?_;cbv;obtain⟨x1,hx1,h_1⟩:=ag h_1;try dsimp only at h_1
   refine ACall.mk _ _ rfl (hF _ _ _ (eF hg ht hx1)) (.inl rfl) (nb rfl) ?_;cbv;refine AStep.mk (d8 hi1) ?_;cbv;refine AGet.mk _ (dU hg ht hi1 hz1) ?_;cbv;obtain⟨hc1,h_1⟩:=ak h_1;refine AStep.mk hc1 ?_;cbv;obtain⟨x2,hx2,h_1⟩:=aV h_1;try dsimp only at h_1
   refine AGet.mk _ (o8 hg ht hx2) ?_;cbv
   cases hb2:(seq z1_To x2)
   ·rw[aa hb2] at h_1;cbv;iterate 5 try(rw[hb2];cbv)
    try rw[hg] at h_1
    try rw[ht] at h_1
    refine⟨⟨(k1+1,(wrap .i64 (add v1 1))),hc1_,hs1,h_1⟩,Wk.of [(0,some 0),(1,some 1)] rfl rfl ?_ ?_,aB hc1_⟩
    ·cbv;all_goals exact⟨⟨_,rfl,rfl⟩,⟨_,rfl,rfl⟩,⟨_,rfl,rfl⟩,⟨_,rfl,rfl⟩,⟨_,rfl,rfl⟩,⟨_,rfl,rfl⟩,⟨_,rfl,rfl⟩,⟨_,rfl,rfl⟩,⟨_,rfl,rfl⟩,⟨_,rfl,rfl⟩,⟨_,rfl,rfl⟩,trivial⟩
    cbv;all_goals exact⟨⟨_,rfl,_,rfl,rfl,rfl,rfl,trivial⟩,⟨_,rfl,_,rfl,rfl,rfl,trivial⟩,trivial⟩
   rw[ab hb2] at h_1;cbv;iterate 2 try(rw[hb2];cbv)
   obtain⟨hc2,h_1⟩:=ak h_1;refine AStep.mk hc2 ?_;cbv;obtain⟨x3,hx3,h_1⟩:=aV h_1;try dsimp only at h_1
   refine AGet.mk _ (d7 hg ht hx3) ?_;cbv;iterate 3 try(rw[hb2];cbv)
   cases hb3:(lt x3 0)
   rotate_left
   ·rw[ab hb3] at h_1;cbv;try rw[hg] at h_1
    try rw[ht] at h_1
    refine⟨⟨(k1+1,(wrap .i64 (add v1 1))),hc1_,hs1,h_1⟩,Wk.of [(0,some 0),(1,some 1)] rfl rfl ?_ ?_,aB hc1_⟩
    ·cbv;all_goals exact⟨⟨_,rfl,rfl⟩,⟨_,rfl,rfl⟩,⟨_,rfl,rfl⟩,⟨_,rfl,rfl⟩,⟨_,rfl,rfl⟩,⟨_,rfl,rfl⟩,⟨_,rfl,rfl⟩,⟨_,rfl,rfl⟩,⟨_,rfl,rfl⟩,⟨_,rfl,rfl⟩,⟨_,rfl,rfl⟩,trivial⟩
    cbv;all_goals exact⟨⟨_,rfl,_,rfl,rfl,rfl,rfl,trivial⟩,⟨_,rfl,_,rfl,rfl,rfl,trivial⟩,trivial⟩
   rw[aa hb3] at h_1;cbv;obtain⟨hc3,h_1⟩:=ak h_1;refine AStep.mk hc3 ?_;cbv;refine AGet.mk _ (d7 hg ht hx3) ?_;cbv;obtain⟨x4,hx4,h_1⟩:=ag h_1;try dsimp only at h_1
   refine ACall.mk _ _ rfl (hF _ _ _ (oK hg ht hx4)) (.inl rfl) (nb rfl) ?_;cbv;obtain⟨x5,hx5,h_1⟩:=ae h_1;try dsimp only at h_1
   refine ACall.mk _ _ rfl (hF _ _ _ (qS hg ht hx5)) (.inl rfl) (nb rfl) ?_;cbv
   cases hb4:(le 0 x5)
   ·rw[aa hb4] at h_1;cbv;iterate 5 try(rw[hb4];cbv)
    try rw[hg] at h_1
    try rw[ht] at h_1
    refine⟨⟨(k1+1,(wrap .i64 (add v1 1))),hc1_,hs1,h_1⟩,Wk.of [(0,some 0),(1,some 1)] rfl rfl ?_ ?_,aB hc1_⟩
    ·cbv;all_goals exact⟨⟨_,rfl,rfl⟩,⟨_,rfl,rfl⟩,⟨_,rfl,rfl⟩,⟨_,rfl,rfl⟩,⟨_,rfl,rfl⟩,⟨_,rfl,rfl⟩,⟨_,rfl,rfl⟩,⟨_,rfl,rfl⟩,⟨_,rfl,rfl⟩,⟨_,rfl,rfl⟩,⟨_,rfl,rfl⟩,trivial⟩
    cbv;all_goals exact⟨⟨_,rfl,_,rfl,rfl,rfl,rfl,trivial⟩,⟨_,rfl,_,rfl,rfl,rfl,trivial⟩,trivial⟩
   rw[ab hb4] at h_1;cbv;iterate 2 try(rw[hb4];cbv)
   obtain⟨x6,hx6,h_1⟩:=ae h_1;try dsimp only at h_1
   refine ACall.mk _ _ rfl (hF _ _ _ (qu hg ht hx6)) (.inl rfl) (nb rfl) ?_;cbv;iterate 3 try(rw[hb4];cbv)
   cases hb5:(eq x6 a8)
   rotate_left
   ·rw[ab hb5] at h_1;cbv;obtain rfl:=Option.some.inj h_1;try dsimp only[lr,lrL,lrp,aH] at h
    obtain rfl:=Option.some.inj h;exact ARet.mk trivial hX.symm
   rw[aa hb5] at h_1;cbv;try rw[hg] at h_1
   try rw[ht] at h_1
   refine⟨⟨(k1+1,(wrap .i64 (add v1 1))),hc1_,hs1,h_1⟩,Wk.of [(0,some 0),(1,some 1)] rfl rfl ?_ ?_,aB hc1_⟩
   ·cbv;all_goals exact⟨⟨_,rfl,rfl⟩,⟨_,rfl,rfl⟩,⟨_,rfl,rfl⟩,⟨_,rfl,rfl⟩,⟨_,rfl,rfl⟩,⟨_,rfl,rfl⟩,⟨_,rfl,rfl⟩,⟨_,rfl,rfl⟩,⟨_,rfl,rfl⟩,⟨_,rfl,rfl⟩,⟨_,rfl,rfl⟩,trivial⟩
   cbv;all_goals exact⟨⟨_,rfl,_,rfl,rfl,rfl,rfl,trivial⟩,⟨_,rfl,_,rfl,rfl,rfl,trivial⟩,trivial⟩
  have hb1:lt v1 (llen (r_Leg a0_Legs))=false:=dn hg ht hi1 hc1_;rw[List.drop_of_length_le (Nat.le_of_not_lt hc1_)] at h_1;rw[cg] at h_1;try rw[←hg] at h_1
  try rw[←ht] at h_1
  try dsimp only at h_1
  rw[hb1];cbv;refine⟨(),Wk.of [(0,some 1)] rfl rfl ?_ ?_,(Option.some.inj h_1).symm⟩
  ·cbv;all_goals exact⟨⟨_,rfl,rfl⟩,trivial⟩
  cbv;all_goals exact⟨⟨_,rfl,_,rfl,rfl,rfl,trivial⟩,trivial⟩
 rintro _ hy1;replace hy1:=hy1.symm;subst hy1;try dsimp only[lr,lrL,lrp,aH] at h
 cbv;obtain rfl:=Option.some.inj h;exact ARet.mk trivial hX.symm
def ir24:J:=js [jq 7 (.box 0),jq 14 (.mv (.k (.c (.n 2)))),jm 15 kf] [1,2,3,4,5,6,7] (js [jl 26 3 7,jc 27 58 [26],jm 16 27] [1,2,3,4,5,6,7,16] (js [jm 28 16,jm 29 3,jc 30 59 [28,29],jm 17 30] [1,2,3,4,5,6,7,16,17] (js [jm 31 16,jm 32 4,jc 33 59 [31,32],jm 18 33] [1,2,3,5,6,7,16,17,18] (js [jl 34 3 7,jm 35 1,jm 36 2,jm 37 3,jm 38 5,jm 39 6,jm 40 16,jq 41 (.len false 40),jc 42 74 [34,35,36,37,38,39,41],jm 19 42] [1,2,3,5,6,7,16,17,18,19] (js [jq 43 (.bsl 2 []),jm 20 43] [1,2,3,5,6,7,16,17,18,19,20] (.seq (js [jm 44 18,jb 45 .lss .i 44 (ki 0),jm 46 45,jv 47 46 (.mv 19),jv 48 46 (.len false 47),jv 49 46 (.bin .eql .i 48 (ki 0)),jq 50 (.pick 46 kt 49),jm 51 50,jv 52 51 (.mv 19),jv 53 51 (.mv 18),jv 54 51 (.ia 1 52 53),jv 55 51 (.ld false 1 54),jv 56 51 (.bin .lss .i 55 (ki 0)),jq 57 (.pick 51 kt 56)] [1,2,3,5,6,7,16,17,18,19,20,57] (.cond 57 (js [jm 58 20,jm 14 58,jm 15 kf] [14,15] .ret) .skip)) (js [jm 59 19,jm 60 18,ja 61 1 59 60,jk 62 61,jm 21 62] [1,2,3,5,6,7,16,17,18,20,21] (js [jm 22 (ki 0)] [1,2,3,5,6,7,16,17,18,20,21,22] (.seq (.bl 0 (.seq (js [jl 63 3 7,jm 64 1,jm 65 2,jm 66 3,jm 67 5,jm 68 6,jm 69 22,jc 70 74 [63,64,65,66,67,68,69],jm 71 18,ja 72 1 70 71,jk 73 72,jm 74 21,jb 75 .neq .i 73 74] [1,2,3,5,6,7,16,17,18,20,21,22,75] (.cond 75 .skip (.exit 0))) (.block 1 (.reg none [jm 76 22,jb 77 .add .i 76 (ki 1),jm 22 77] [1,2,3,5,6,7,16,17,18,20,21,22])))) (.seq (js [jm 78 22,jm 23 78] [1,2,3,5,6,7,16,17,18,20,21,23] (.bl 2 (.seq (js [jm 79 23,jb 80 .gtr .i 79 (ki 0)] [1,2,3,5,6,7,16,17,18,20,21,23,80] (.cond 80 .skip (.exit 2))) (.seq (.block 3 (js [jl 83 3 7,jm 84 1,jm 85 2,jm 86 3,jm 87 5,jm 88 6,jm 89 23,jb 90 .sub .i 89 (ki 1),jc 91 74 [83,84,85,86,87,88,90],jm 24 91] [1,2,3,5,6,7,16,17,18,20,21,23,24] (js [jl 92 3 7,jm 93 1,jm 94 2,jm 95 6,jm 96 16,jm 97 24,jm 98 17,jm 99 18,jm 100 21,jc 101 75 [92,93,94,95,96,97,98,99,100],jq 25 (.alloc [.r (.v (.int .i64 0)),.r (.v (.int .i64 0))]),jp (.st 2 25 101)] [1,2,3,5,6,7,16,17,20,23,24,25] (js [jl 102 2 25,jq 103 (.bsl 2 [102]),jm 104 20,jq 105 (.app 2 16 false 103 104),jm 20 105] [1,2,3,5,6,7,16,17,20,23,24,25] (js [jm 106 16,jf 107 0 7,jk 108 107,jf 109 0 25,jk 110 109,ja 111 6 108 110,jf 112 0 111,jk 113 112,jc 114 59 [106,113],jm 18 114] [1,2,3,5,6,7,16,17,18,20,23,24] (.reg none [jm 115 24,jm 116 18,ja 117 1 115 116,jk 118 117,jm 21 118] [1,2,3,5,6,7,16,17,18,20,21,23])))))) (.reg none [jm 81 23,jb 82 .sub .i 81 (ki 1),jm 23 82] [1,2,3,5,6,7,16,17,18,20,21,23]))))) (js [jm 119 20,jm 14 119,jm 15 kt] [14,15] .ret)))))))))))
def rv24:List RV:=[.t 14,.t 15]
def cH (g:G) (t:TE) (a0:Network) (a1:List Booking) (a2:List Trip) (a3:ByteArray) (a5:Int) (a6:Int) (x1:List ByteArray) (x2:Int):Nat→Int→List Trip→Int→Int→Option (List Trip)
 |0,_,_,_,_=>none
 |n2+1,v2,w1,v3,v4=>
  br (g.lt 0 v4)
  (
   cl (bV g t a0 a1 a2 a3 a5 a6 (g.wrap .i64 (g.sub v4 1))) fun x8=>
   cl (mF g t a0 a1 a2 a6 x1 x8 x2 v2 v3) fun x9=>
   lP ([x9]) fun(l2:List Trip)=>
   gd (((l2.length+w1.length)*16≤70368744177664))<|
   lP (l2++w1) fun(l3:List Trip)=>
   gd (((0:Int)≤x9.Leg))<|
   gt a0.Legs (g.nat x9.Leg) fun x10=>
   lP (dD g t x1 x10.From) fun x11=>
   gd (((0:Int)≤x11∧x11<(((g.dlen (t.d_I64 x8)):Nat):Int)))<|
   gt x8 (g.nat x11) fun x12=>
   cH g t a0 a1 a2 a3 a5 a6 x1 x2 n2 x11 l3 x12 (g.wrap .i64 (g.sub v4 1)))
  (
   some w1)
def du (g:G) (t:TE) (a0:Network) (a1:List Booking) (a2:List Trip) (a3:ByteArray) (a5:Int) (a6:Int) (x3:Int) (x5:Int):Nat→Int→Option Int
 |0,_=>none
 |n1+1,v1=>
  cl (bV g t a0 a1 a2 a3 a5 a6 v1) fun x6=>
  gd (((0:Int)≤x3∧x3<(((g.dlen (t.d_I64 x6)):Nat):Int)))<|
  gt x6 (g.nat x3) fun x7=>
  br (g.eq x7 x5)
  (
   some v1)
  (
   du g t a0 a1 a2 a3 a5 a6 x3 x5 n1 (g.wrap .i64 (g.add v1 1)))
def fj (g:G) (t:TE) (a0:Network) (a1:List Booking) (a2:List Trip) (a3:ByteArray) (a4:ByteArray) (a5:Int) (a6:Int):Option ((List Trip)×Bool):=
 cl (fw g t a0) fun x1=>
 lP (dD g t x1 a3) fun x2=>
 lP (dD g t x1 a4) fun x3=>
 cl (bV g t a0 a1 a2 a3 a5 a6 (g.int (g.dlen (t.d_S x1)))) fun x4=>
 lP ([]) fun(l1:List Trip)=>
 br (g.lt x3 0)
 (
  some ((l1,false)))
 (
  br (g.eq (g.int (g.dlen (t.d_I64 x4))) 0)
  (
   some ((l1,false)))
  (
   gd (((0:Int)≤x3∧x3<(((g.dlen (t.d_I64 x4)):Nat):Int)))<|
   gt x4 (g.nat x3) fun x5=>
   br (g.lt x5 0)
   (
    some ((l1,false)))
   (
    gd (((0:Int)≤x3∧x3<(((g.dlen (t.d_I64 x4)):Nat):Int)))<|
    cl (du g t a0 a1 a2 a3 a5 a6 x3 x5 1000000000 0) fun y1=>
    cl (cH g t a0 a1 a2 a3 a5 a6 x1 x2 1000000000 x3 l1 x5 y1) fun y2=>
    some ((y2,true)))))
theorem my {g:G} {t:TE} {a0:Network} {a1:List Booking} {a2:List Trip} {a3:ByteArray} {a4:ByteArray} {a5:Int} {a6:Int} {r:(List Trip)×Bool} (hg:g=G.real) (ht:t=TE.real) (h:fj g t a0 a1 a2 a3 a4 a5 a6=some r):Fn Tryz.prog 24 [.g (Network.rs t a0),.c (.s 4 (t.r_Booking a1)),.c (.s 2 (t.r_Trip a2)),.c (.v (.string a3)),.c (.v (.string a4)),.c (.v (.int .i64 a5)),.c (.v (.int .i64 a6))] (.u [.c (.o 2 (t.d_Trip r.1)),.c (.r (.v (.bool r.2)))]):=by
 obtain⟨X,hX⟩:=aJ (.u [.c (.o 2 (t.d_Trip r.1)),.c (.r (.v (.bool r.2)))]:X);rw[←hX];refine aE (rvs:=rv24) (j:=ir24) Tryz.func24 rfl (by kernel_rfl) (nb rfl) (by kernel_rfl) ac ?_;intro g2 F hg2 hF;obtain rfl:g2=g:=hg2.unique.trans hg.symm;clear hg2;obtain⟨wrap,lt,_,eq,_,_,_,_,_,_,_,_,int,add,sub,_,_,_,_,_,_,_,_,_,dlen,_,_,_,rd⟩:=g2;obtain⟨_,_,_,_,r_Leg,_,r_I64,d_I64,r_Trip,d_Trip,r_Booking,_,r_S,d_S⟩:=t
 obtain⟨a0_Legs,a0_Off,a0_Change⟩:=a0;unfold fj at h;try dsimp only at h
 cbv;obtain⟨x1,hx1,h⟩:=ae h;try dsimp only at h
 refine ACall.mk _ _ rfl (hF _ _ _ (j8 hg ht hx1)) (.inl rfl) (nb rfl) ?_;cbv;refine AStep.mk (eU ht (ap hg ht _)) ?_;cbv;obtain⟨x2,hx2,h⟩:=ag h;try dsimp only at h
 refine ACall.mk _ _ (by rw[show rd (d_S x1) 0 (dlen (d_S x1))=r_S x1 from gL hg ht (ap hg ht _)];try rfl) (hF _ _ _ (eF hg ht hx2)) (.inr rfl) (nb rfl) ?_
 cbv;refine AStep.mk (eU ht (ap hg ht _)) ?_;cbv;obtain⟨x3,hx3,h⟩:=ag h;try dsimp only at h
 refine ACall.mk _ _ (by rw[show rd (d_S x1) 0 (dlen (d_S x1))=r_S x1 from gL hg ht (ap hg ht _)];try rfl) (hF _ _ _ (eF hg ht hx3)) (.inr rfl) (nb rfl) ?_
 cbv;obtain⟨x4,hx4,h⟩:=ae h;try dsimp only at h
 refine ACall.mk _ _ rfl (hF _ _ _ (jH hg ht hx4)) (.inl rfl) (nb rfl) ?_;cbv;obtain⟨l1,hl1,h⟩:=ag h;try dsimp only at h
 refine ANew.mk (d_Trip l1) (dlen (d_Trip l1)) (by rw[←hl1];exact ed hg ht []) (by rw[←hl1];exact dH hg ht []) ?_;cbv
 cases hb1:(lt x3 0)
 rotate_left
 ·rw[ab hb1] at h;cbv;iterate 3 try(rw[hb1];cbv)
  obtain rfl:=Option.some.inj h;exact ARet.mk ⟨rfl,(aw hg ht _)⟩ hX.symm
 rw[aa hb1] at h;cbv;iterate 3 try(rw[hb1];cbv)
 cases hb2:(eq (int (dlen (d_I64 x4))) 0)
 rotate_left
 ·rw[ab hb2] at h;cbv;iterate 5 try(rw[hb2];cbv)
  obtain rfl:=Option.some.inj h;exact ARet.mk ⟨rfl,(aw hg ht _)⟩ hX.symm
 rw[aa hb2] at h;cbv;iterate 2 try(rw[hb2];cbv)
 obtain⟨hc1,h⟩:=ak h;refine AStep.mk hc1 ?_;cbv;try(rw[hb2];cbv)
 obtain⟨x5,hx5,h⟩:=aV h;try dsimp only at h
 refine AGet.mk _ (bn hg ht hx5) ?_;cbv;iterate 2 try(rw[hb2];cbv)
 cases hb3:(lt x5 0)
 rotate_left
 ·rw[ab hb3] at h;cbv;obtain rfl:=Option.some.inj h;exact ARet.mk ⟨rfl,(aw hg ht _)⟩ hX.symm
 rw[aa hb3] at h;cbv;obtain⟨hc2,h⟩:=ak h;refine AStep.mk hc2 ?_;cbv;refine AGet.mk _ (bn hg ht hx5) ?_;cbv;obtain⟨o1,ho1,h⟩:=ae h;try dsimp only at h
 try rw[hg] at ho1
 try rw[ht] at ho1
 refine ABL.mk {p:Nat×Int//du G.real TE.real (Network.mk a0_Legs a0_Off a0_Change) a1 a2 a3 a5 a6 x3 x5 p.1 p.2=some o1} (fun⟨⟨n1,v1⟩,_⟩=>({sl:=[(1,.c (.r (.s 4 (r_Booking a1)))),(2,.c (.r (.s 2 (r_Trip a2)))),(3,.c (.r (.v (.string a3)))),(5,.c (.r (.v (.int .i64 a5)))),(6,.c (.r (.v (.int .i64 a6)))),(7,.c (.p 0 3 0 0)),(16,.c (.f 1 1 0 (dlen (d_S x1)))),(17,.c (.r (.v (.int .i64 x2)))),(18,.c (.r (.v (.int .i64 x3)))),(20,.c (.f 2 2 0 (dlen (d_Trip l1)))),(21,.c (.r (.v (.int .i64 x5)))),(22,.c (.r (.v (.int .i64 v1))))],tab:=[(0,some (.foc 3 [] [.r (.s 6 (r_Leg a0_Legs)),.r (.s 1 (r_I64 a0_Off)),.r (.v (.int .i64 a0_Change))] [])),(1,some (.arr 1 (d_S x1))),(2,some (.arr 2 (d_Trip l1)))]}:St)) 3 (fun p=>p.1.1) ⟨(1000000000,0),ho1⟩ (Int) (fun y1=>({sl:=[(1,.c (.r (.s 4 (r_Booking a1)))),(2,.c (.r (.s 2 (r_Trip a2)))),(3,.c (.r (.v (.string a3)))),(5,.c (.r (.v (.int .i64 a5)))),(6,.c (.r (.v (.int .i64 a6)))),(7,.c (.p 0 3 0 0)),(16,.c (.f 1 1 0 (dlen (d_S x1)))),(17,.c (.r (.v (.int .i64 x2)))),(18,.c (.r (.v (.int .i64 x3)))),(20,.c (.f 2 2 0 (dlen (d_Trip l1)))),(21,.c (.r (.v (.int .i64 x5)))),(22,.c (.r (.v (.int .i64 y1))))],tab:=[(0,some (.foc 3 [] [.r (.s 6 (r_Leg a0_Legs)),.r (.s 1 (r_I64 a0_Off)),.r (.v (.int .i64 a0_Change))] [])),(1,some (.arr 1 (d_S x1))),(2,some (.arr 2 (d_Trip l1)))]}:St)) 3 (fun y=>o1=y) ?_ ?_ ?_
 ·refine Wk.of [(0,some 0),(1,some 64),(2,some 384)] rfl rfl ?_ ?_
  ·cbv;all_goals exact⟨⟨_,rfl,rfl⟩,⟨_,rfl,rfl⟩,⟨_,rfl,rfl⟩,⟨_,rfl,rfl⟩,⟨_,rfl,rfl⟩,⟨_,rfl,rfl⟩,⟨_,rfl,rfl⟩,⟨_,rfl,rfl⟩,⟨_,rfl,rfl⟩,⟨_,rfl,rfl⟩,⟨_,rfl,rfl⟩,⟨_,rfl,rfl⟩,trivial⟩
  cbv;all_goals exact⟨⟨_,rfl,_,rfl,rfl,rfl,rfl,trivial⟩,⟨_,rfl,rfl⟩,⟨_,rfl,rfl⟩,trivial⟩
 ·rintro⟨⟨n1,v1⟩,h_1⟩ hq1;try dsimp only at h_1
  clear hq1;rcases n1 with _|n1
  ·rw[du] at h_1;cases h_1
  rw[du] at h_1;try rw[←hg] at h_1
  try rw[←ht] at h_1
  try dsimp only at h_1
  cbv;obtain⟨x6,hx6,h_1⟩:=ae h_1;try dsimp only at h_1
  refine ACall.mk _ _ rfl (hF _ _ _ (jH hg ht hx6)) (.inl rfl) (nb rfl) ?_;cbv;obtain⟨hc3,h_1⟩:=ak h_1;refine AStep.mk hc3 ?_;cbv;obtain⟨x7,hx7,h_1⟩:=aV h_1;try dsimp only at h_1
  refine AGet.mk _ (bn hg ht hx7) ?_;cbv
  cases hb4:(eq x7 x5)
  rotate_left
  ·rw[ab hb4] at h_1;cbv;refine⟨v1,Wk.of [(0,some 0),(1,some 1),(2,some 2)] rfl rfl ?_ ?_,(Option.some.inj h_1).symm⟩
   ·cbv;all_goals exact⟨⟨_,rfl,rfl⟩,⟨_,rfl,rfl⟩,⟨_,rfl,rfl⟩,⟨_,rfl,rfl⟩,⟨_,rfl,rfl⟩,⟨_,rfl,rfl⟩,⟨_,rfl,rfl⟩,⟨_,rfl,rfl⟩,⟨_,rfl,rfl⟩,⟨_,rfl,rfl⟩,⟨_,rfl,rfl⟩,⟨_,rfl,rfl⟩,trivial⟩
   cbv;all_goals exact⟨⟨_,rfl,_,rfl,rfl,rfl,rfl,trivial⟩,⟨_,rfl,rfl⟩,⟨_,rfl,rfl⟩,trivial⟩
  rw[aa hb4] at h_1;cbv;try rw[hg] at h_1
  try rw[ht] at h_1
  refine⟨⟨(n1,(wrap .i64 (add v1 1))),h_1⟩,Wk.of [(0,some 0),(1,some 1),(2,some 2)] rfl rfl ?_ ?_,Nat.lt_succ_self _⟩
  ·cbv;all_goals exact⟨⟨_,rfl,rfl⟩,⟨_,rfl,rfl⟩,⟨_,rfl,rfl⟩,⟨_,rfl,rfl⟩,⟨_,rfl,rfl⟩,⟨_,rfl,rfl⟩,⟨_,rfl,rfl⟩,⟨_,rfl,rfl⟩,⟨_,rfl,rfl⟩,⟨_,rfl,rfl⟩,⟨_,rfl,rfl⟩,⟨_,rfl,rfl⟩,trivial⟩
  cbv;all_goals exact⟨⟨_,rfl,_,rfl,rfl,rfl,rfl,trivial⟩,⟨_,rfl,rfl⟩,⟨_,rfl,rfl⟩,trivial⟩
 rintro y1 hy1;replace hy1:=hy1.symm;subst hy1;try dsimp only[lr,lrL,lrp,aH] at h
 cbv;obtain⟨o2,ho2,h⟩:=ae h;try dsimp only at h
 try rw[hg] at ho2
 try rw[ht] at ho2
 refine ABL.mk {p:Nat×Int×(List Trip)×Int×Int//cH G.real TE.real (Network.mk a0_Legs a0_Off a0_Change) a1 a2 a3 a5 a6 x1 x2 p.1 p.2.1 p.2.2.1 p.2.2.2.1 p.2.2.2.2=some o2} (fun⟨⟨n2,v2,w1,v3,v4⟩,_⟩=>({sl:=[(1,.c (.r (.s 4 (r_Booking a1)))),(2,.c (.r (.s 2 (r_Trip a2)))),(3,.c (.r (.v (.string a3)))),(5,.c (.r (.v (.int .i64 a5)))),(6,.c (.r (.v (.int .i64 a6)))),(7,.c (.p 0 3 0 0)),(16,.c (.f 1 1 0 (dlen (d_S x1)))),(17,.c (.r (.v (.int .i64 x2)))),(18,.c (.r (.v (.int .i64 v2)))),(20,.c (.f 2 2 0 (dlen (d_Trip w1)))),(21,.c (.r (.v (.int .i64 v3)))),(23,.c (.r (.v (.int .i64 v4))))],tab:=[(0,some (.foc 3 [] [.r (.s 6 (r_Leg a0_Legs)),.r (.s 1 (r_I64 a0_Off)),.r (.v (.int .i64 a0_Change))] [])),(1,some (.arr 1 (d_S x1))),(2,some (.arr 2 (d_Trip w1)))]}:St)) 3 (fun p=>p.1.1) ⟨(1000000000,x3,l1,x5,y1),ho2⟩ (List Trip) (fun y2=>({sl:=[(20,.c (.f 0 2 0 (dlen (d_Trip y2))))],tab:=[(0,some (.arr 2 (d_Trip y2)))]}:St)) 1 (fun y=>o2=y) ?_ ?_ ?_
 ·refine Wk.of [(0,some 0),(1,some 1),(2,some 2)] rfl rfl ?_ ?_
  ·cbv;all_goals exact⟨⟨_,rfl,rfl⟩,⟨_,rfl,rfl⟩,⟨_,rfl,rfl⟩,⟨_,rfl,rfl⟩,⟨_,rfl,rfl⟩,⟨_,rfl,rfl⟩,⟨_,rfl,rfl⟩,⟨_,rfl,rfl⟩,⟨_,rfl,rfl⟩,⟨_,rfl,rfl⟩,⟨_,rfl,rfl⟩,⟨_,rfl,rfl⟩,trivial⟩
  cbv;all_goals exact⟨⟨_,rfl,_,rfl,rfl,rfl,rfl,trivial⟩,⟨_,rfl,rfl⟩,⟨_,rfl,rfl⟩,trivial⟩
 ·rintro⟨⟨n2,v2,w1,v3,v4⟩,h_2⟩ hq2;try dsimp only at h_2
  clear hq2;rcases n2 with _|n2
  ·rw[cH] at h_2;cases h_2
  rw[cH] at h_2;try rw[←hg] at h_2
  try rw[←ht] at h_2
  try dsimp only at h_2
  cbv
  cases hb5:(lt 0 v4)
  ·rw[aa hb5] at h_2;cbv;refine⟨w1,Wk.of [(0,some 2)] rfl rfl ?_ ?_,(Option.some.inj h_2).symm⟩
   ·cbv;all_goals exact⟨⟨_,rfl,rfl⟩,trivial⟩
   cbv;all_goals exact⟨⟨_,rfl,rfl⟩,trivial⟩
  rw[ab hb5] at h_2;cbv;obtain⟨x8,hx8,h_2⟩:=ae h_2;try dsimp only at h_2
  refine ACall.mk _ _ rfl (hF _ _ _ (jH hg ht hx8)) (.inl rfl) (nb rfl) ?_;cbv;refine AStep.mk ⟨(eU ht (ap hg ht _)),(mN ht (am hg ht _))⟩ ?_;cbv;obtain⟨x9,hx9,h_2⟩:=ae h_2;obtain⟨x9_Leg,x9_Day⟩:=x9;try dsimp only at h_2
  refine ACall.mk _ _ (by rw[show rd (d_S x1) 0 (dlen (d_S x1))=r_S x1 from gL hg ht (ap hg ht _),show rd (d_I64 x8) 0 (dlen (d_I64 x8))=r_I64 x8 from ph hg ht (am hg ht _)];try rfl) (hF _ _ _ (wl hg ht hx9)) (.inr (by simp only[Go.Vs.X.fresh,Go.Vs.X.freshs,fq,cr,Bool.and_self,Trip.ds])) (nb rfl) ?_
  cbv;obtain⟨l2,hl2,h_2⟩:=ag h_2;try dsimp only at h_2
  refine ANew.mk (d_Trip l2) (dlen (d_Trip l2)) (by rw[←hl2];exact ed hg ht [(Trip.mk x9_Leg x9_Day)]) (by rw[←hl2];exact dH hg ht [(Trip.mk x9_Leg x9_Day)]) ?_;cbv;obtain⟨hc6,h_2⟩:=ak h_2;refine AStep.mk ⟨(tq hg ht (aw hg ht _)),(gr hg ht (aw hg ht _) (lL hg ht (aw hg ht _)) hc6)⟩ ?_;cbv;obtain⟨l3,hl3,h_2⟩:=ag h_2;try dsimp only at h_2
  refine ANew.mk (d_Trip l3) (dlen (d_Trip l3)) (by rw[←hl3];exact kw hg ht (aw hg ht _) (lL hg ht (aw hg ht _))) (by rw[←hl3];exact jn hg ht (aw hg ht _) (lL hg ht (aw hg ht _))) ?_;cbv;obtain⟨hc4,h_2⟩:=ak h_2;refine AStep.mk hc4 ?_;cbv;obtain⟨x10,hx10,h_2⟩:=aV h_2;obtain⟨x10_From,x10_To,x10_Start,x10_Takes,x10_Days,x10_Room⟩:=x10;try dsimp only at h_2
  refine AGet.mk _ (bg hg ht hx10) ?_;cbv;refine AStep.mk (eU ht (ap hg ht _)) ?_;cbv;obtain⟨x11,hx11,h_2⟩:=ag h_2;try dsimp only at h_2
  refine ACall.mk _ _ (by rw[show rd (d_S x1) 0 (dlen (d_S x1))=r_S x1 from gL hg ht (ap hg ht _)];try rfl) (hF _ _ _ (eF hg ht hx11)) (.inr rfl) (nb rfl) ?_
  cbv;obtain⟨hc5,h_2⟩:=ak h_2;refine AStep.mk hc5 ?_;cbv;obtain⟨x12,hx12,h_2⟩:=aV h_2;try dsimp only at h_2
  refine AGet.mk _ (bn hg ht hx12) ?_;cbv;try rw[hg] at h_2
  try rw[ht] at h_2
  refine⟨⟨(n2,x11,l3,x12,(wrap .i64 (sub v4 1))),h_2⟩,Wk.of [(0,some 0),(1,some 1),(2,some 435)] rfl rfl ?_ ?_,Nat.lt_succ_self _⟩
  ·cbv;all_goals exact⟨⟨_,rfl,rfl⟩,⟨_,rfl,rfl⟩,⟨_,rfl,rfl⟩,⟨_,rfl,rfl⟩,⟨_,rfl,rfl⟩,⟨_,rfl,rfl⟩,⟨_,rfl,rfl⟩,⟨_,rfl,rfl⟩,⟨_,rfl,rfl⟩,⟨_,rfl,rfl⟩,⟨_,rfl,rfl⟩,⟨_,rfl,rfl⟩,trivial⟩
  cbv;all_goals exact⟨⟨_,rfl,_,rfl,rfl,rfl,rfl,trivial⟩,⟨_,rfl,rfl⟩,⟨_,rfl,rfl⟩,trivial⟩
 rintro y2 hy2;replace hy2:=hy2.symm;subst hy2;try dsimp only[lr,lrL,lrp,aH] at h
 cbv;obtain rfl:=Option.some.inj h;exact ARet.mk ⟨rfl,(aw hg ht _)⟩ hX.symm
def ir70 (s_k0:ByteArray):J:=js [jq 3 (.box 1),jq 4 (.mv (.k (.c (.r (.v (.string s_k0))))))] [0,3] (js [jl 6 3 3,jc 7 58 [6],jm 5 7] [0,5] (.seq (js [jm 8 0,jq 9 (.callm 67 true 8 [(ki 9)])] [0,5,9] (.cond 9 (js [jm 10 0,jq 11 (.callm 124 true 10 []),jm 4 11] [4] .ret) .skip)) (js [jm 12 5,jm 13 0,jm 14 5,jq 15 (.len false 14),jq 16 (.callm 90 true 13 [15]),ja 17 1 12 16,jk 18 17,jm 4 18] [4] .ret)))
def rv70:List RV:=[.t 4]
def iQ (g:G) (t:TE) (a0:Cur) (a1:Network):Option (ByteArray×Cur):=
 cl (fw g t a1) fun x1=>
 cl (dG g t a0 9) fun x2=>
 br x2.1
 (
  cl (f9 g t (Cur.mk x2.2.b x2.2.i x2.2.h)) fun x3=>
  some ((x3.1,(Cur.mk x3.2.b x3.2.i x3.2.h))))
 (
  cl (aL g t (Cur.mk x2.2.b x2.2.i x2.2.h) (g.int (g.dlen (t.d_S x1)))) fun x4=>
  gd (((0:Int)≤x4.1∧x4.1<(((g.dlen (t.d_S x1)):Nat):Int)))<|
  gt x1 (g.nat x4.1) fun x5=>
  some ((x5,(Cur.mk x4.2.b x4.2.i x4.2.h))))
theorem i4 {g:G} {t:TE} {a0:Cur} {a1:Network} {r:ByteArray×Cur} (hg:g=G.real) (ht:t=TE.real) (h:iQ g t a0 a1=some r):FnM Tryz.prog 70 (.p (Cur.ds t a0)) [.g (Network.rs t a1)] (.c (.r (.v (.string r.1)))) (.p (Cur.ds t r.2)):=by
 obtain⟨X,hX⟩:=aJ (.c (.r (.v (.string r.1))):X);obtain⟨Y,hY⟩:=aJ (.p (Cur.ds t r.2):AM);rw[←hX,←hY];refine fm (rvs:=rv70) (j:=(ir70 str_k0)) Tryz.func70 rfl (by kernel_rfl) (nb rfl) (by kernel_rfl) ac ?_;intro g2 F hg2 hF;obtain rfl:g2=g:=hg2.unique.trans hg.symm;clear hg2;obtain⟨_⟩:=g2;obtain⟨_⟩:=t
 obtain⟨a0_b,a0_i,a0_h⟩:=a0;obtain⟨a1_Legs,a1_Off,a1_Change⟩:=a1;unfold iQ at h;try dsimp only at h
 obtain⟨s_k0,hs_k0⟩:∃s,str_k0=s:=⟨_,rfl⟩;try rw[hs_k0] at h
 rw[hs_k0];cbv;obtain⟨x1,hx1,h⟩:=ae h;try dsimp only at h
 refine ACall.mk _ _ rfl (hF _ _ _ (j8 hg ht hx1)) (.inl rfl) (nb rfl) ?_;cbv;obtain⟨x2,hx2,h⟩:=ae h;obtain⟨x2_1,⟨x2_2_b,x2_2_i,x2_2_h⟩⟩:=x2;try dsimp only at h
 refine ACallM.mk _ _ _ _ rfl rfl (hF _ _ _ (dV hg ht hx2)) rfl (nb rfl) (nb rfl) ?_;cbv;have hb1:x2_1=true∨x2_1=false:=by cases x2_1<;>simp
 rcases hb1 with hb1|hb1
 ·rw[ab hb1] at h;have hK_:=h;subst hb1;have h:=hK_;clear hK_;cbv;obtain⟨x3,hx3,h⟩:=ae h;obtain⟨x3_1,⟨x3_2_b,x3_2_i,x3_2_h⟩⟩:=x3;try dsimp only at h
  refine ACallM.mk _ _ _ _ rfl rfl (hF _ _ _ (kq hg ht hx3)) rfl (nb rfl) (nb rfl) ?_;cbv;obtain rfl:=Option.some.inj h;exact ARetM.mk trivial hX.symm hY.symm
 rw[aa hb1] at h;have hK_:=h;subst hb1;have h:=hK_;clear hK_;cbv;obtain⟨x4,hx4,h⟩:=ae h;obtain⟨x4_1,⟨x4_2_b,x4_2_i,x4_2_h⟩⟩:=x4;try dsimp only at h
 refine ACallM.mk _ _ _ _ rfl rfl (hF _ _ _ (aC hg ht hx4)) rfl (nb rfl) (nb rfl) ?_;cbv;obtain⟨hc1,h⟩:=ak h;refine AStep.mk hc1 ?_;cbv;obtain⟨x5,hx5,h⟩:=aV h;try dsimp only at h
 refine AGet.mk _ (lg hg ht hx5) ?_;cbv;obtain rfl:=Option.some.inj h;exact ARetM.mk trivial hX.symm hY.symm
def EN:J:=js [jq 2 (.mv (.k (.c (.n 4))))] [0] (js [jq 3 (.bsl 4 []),jm 4 0,jq 5 (.app 4 32 false 3 4),jm 2 5] [2] .ret)
def Fw:List RV:=[.t 2]
def iq (g:G) (t:TE) (a0:List Booking):Option (List Booking):=
 lP ([]) fun(l1:List Booking)=>
 gd (((l1.length+a0.length)*32≤70368744177664))<|
 lP (l1++a0) fun(l2:List Booking)=>
 some l2
theorem lQ {g:G} {t:TE} {a0:List Booking} {r:List Booking} (hg:g=G.real) (ht:t=TE.real) (h:iq g t a0=some r):Fn Tryz.prog 156 [.c (.s 4 (t.r_Booking a0))] (.c (.o 4 (t.d_Booking r))):=by
 obtain⟨X,hX⟩:=aJ (.c (.o 4 (t.d_Booking r)):X);rw[←hX];refine aE (rvs:=Fw) (j:=EN) Tryz.func156 rfl (by kernel_rfl) (nb rfl) (by kernel_rfl) ac ?_;intro g2 F hg2 hF;obtain rfl:g2=g:=hg2.unique.trans hg.symm;clear hg2;obtain⟨_,_,_,_,_,_,_,_,_,_,_,_,_,_,_,_,_,_,_,_,_,_,_,_,dlen⟩:=g2;obtain⟨_,_,_,_,_,_,_,_,_,_,_,d_Booking⟩:=t
 unfold iq at h;try dsimp only at h
 cbv;obtain⟨l1,hl1,h⟩:=ag h;try dsimp only at h
 refine ANew.mk (d_Booking l1) (dlen (d_Booking l1)) (by rw[←hl1];exact fD hg ht []) (by rw[←hl1];exact eJ hg ht []) ?_;cbv;obtain⟨hc1,h⟩:=ak h;refine AStep.mk (dC hg ht (ah hg ht _) (dQ hg ht _) hc1) ?_;cbv;obtain⟨l2,hl2,h⟩:=ag h;try dsimp only at h
 refine ANew.mk (d_Booking l2) (dlen (d_Booking l2)) (by rw[←hl2];exact fI hg ht (ah hg ht _) (dQ hg ht _)) (by rw[←hl2];exact eI hg ht (ah hg ht _) (dQ hg ht _)) ?_;cbv;obtain rfl:=Option.some.inj h;exact ARet.mk ⟨rfl,(ah hg ht _)⟩ hX.symm
def EX:J:=js [jq 3 (.box 1),jq 4 (.mv (.k (.c (.n 4))))] [0,3] (js [jm 5 (ki 0)] [0,3,5] (.seq (.bl 0 (.seq (.seq (.reg (some [[],[],[1],[0,1,2],[0,1,2,3],[0,1,2,3,4],[0,1,2,3,4],[0,1,2,3,4,5,6],[0,1,2,3,4,5,6,7],[0,1,2,3,4],[0,1,2,3,4,5,6,7,8,9],[0,1,2,3,4,5,6,7,8,9,10]]) [jm 6 5,jm 7 0,jq 8 (.len false 7),jb 9 .lss .i 6 8,jm 10 9,ju 11 10 (.mv 0),ju 12 10 (.mv 5),ju 13 10 (.ia 4 11 12),ju 14 10 (.ld true 4 13),ju 15 10 (.ld true 4 3),ju 16 10 (.call 158 true [14,15]),jq 17 (.pick 10 16 kf)] [0,3,5,17]) (.cond 17 .skip (.exit 0))) (.block 1 (.reg none [jm 18 5,jb 19 .add .i 18 (ki 1),jm 5 19] [0,3,5])))) (.seq (.reg (some [[],[],[0,1],[0,1,2],[],[4],[0,1,2,3,4,5],[],[],[7,8],[0,1,2,3,4,5,6,7,8,9],[0,1,2,3,4,5,6,7,8,9,10]]) [jm 20 0,jm 21 5,jq 22 (.sl 4 20 none (some 21)),jc 23 156 [22],jl 24 4 3,jq 25 (.bsl 4 [24]),jq 26 (.app 4 32 true 23 25),jm 27 0,jm 28 5,jq 29 (.sl 4 27 (some 28) none),jq 30 (.app 4 32 false 26 29),jm 4 30] [4]) .ret)))
def Fl:List RV:=[.t 4]
def dv (g:G) (t:TE) (a1:Booking):List Booking→Int→Int
 |[],v1=>
  v1
 |z1::ls1,v1=>
  lP (fv g t (Booking.mk z1.Thing (Trip.mk z1.Trip.Leg z1.Trip.Day) z1.Weight) (Booking.mk a1.Thing (Trip.mk a1.Trip.Leg a1.Trip.Day) a1.Weight)) fun x1=>
  br x1
  (
   dv g t a1 ls1 (g.wrap .i64 (g.add v1 1)))
  (
   v1)
def np (g:G) (t:TE) (a0:List Booking) (a1:Booking):Option (List Booking):=
 lP (dv g t a1 a0 0) fun y1=>
 gd (((0:Int)≤0∧0≤y1∧y1≤((((t.r_Booking a0).length):Nat):Int)))<|
 lP (List.drop (g.nat 0) (List.take (g.nat y1) a0)) fun(l1:List Booking)=>
 cl (iq g t l1) fun x2=>
 lP ([(Booking.mk a1.Thing (Trip.mk a1.Trip.Leg a1.Trip.Day) a1.Weight)]) fun(l2:List Booking)=>
 gd (((x2.length+l2.length)*32≤70368744177664))<|
 lP (x2++l2) fun(l3:List Booking)=>
 gd (((0:Int)≤y1∧y1≤(g.llen (t.r_Booking a0))∧(g.llen (t.r_Booking a0))≤((((t.r_Booking a0).length):Nat):Int)))<|
 lP (List.drop (g.nat y1) (List.take (g.nat (g.llen (t.r_Booking a0))) a0)) fun(l4:List Booking)=>
 gd (((l3.length+l4.length)*32≤70368744177664))<|
 lP (l3++l4) fun(l5:List Booking)=>
 some l5
theorem zf {g:G} {t:TE} {a0:List Booking} {a1:Booking} {r:List Booking} (hg:g=G.real) (ht:t=TE.real) (h:np g t a0 a1=some r):Fn Tryz.prog 157 [.c (.s 4 (t.r_Booking a0)),.g (Booking.rs t a1)] (.c (.o 4 (t.d_Booking r))):=by
 obtain⟨X,hX⟩:=aJ (.c (.o 4 (t.d_Booking r)):X);rw[←hX];refine aE (rvs:=Fl) (j:=EX) Tryz.func157 rfl (by kernel_rfl) (nb rfl) (by kernel_rfl) ac ?_;intro g2 F hg2 hF;obtain rfl:g2=g:=hg2.unique.trans hg.symm;clear hg2;obtain⟨wrap,lt,_,_,_,_,_,_,_,_,_,_,_,add,_,_,_,_,_,_,_,llen,_,_,dlen⟩:=g2;obtain⟨_,_,_,_,_,_,_,_,_,_,r_Booking,d_Booking⟩:=t
 obtain⟨a1_Thing,⟨a1_Trip_Leg,a1_Trip_Day⟩,a1_Weight⟩:=a1;unfold np at h;try dsimp only at h
 cbv;obtain⟨o1,ho1,h⟩:=ag h;try dsimp only at h
 try rw[hg] at ho1
 try rw[ht] at ho1
 refine ABL.mk {p:Nat×Int//p.1≤a0.length∧p.2=((p.1:Nat):Int)∧dv G.real TE.real (Booking.mk a1_Thing (Trip.mk a1_Trip_Leg a1_Trip_Day) a1_Weight) (List.drop p.1 a0) p.2=o1} (fun⟨⟨k1,v1⟩,_⟩=>({sl:=[(0,.c (.r (.s 4 (r_Booking a0)))),(3,.c (.p 0 4 0 0)),(5,.c (.r (.v (.int .i64 v1))))],tab:=[(0,some (.foc 4 [] [.r (.v (.int .i64 a1_Thing)),.r (.v (.int .i64 a1_Trip_Leg)),.r (.v (.int .i64 a1_Trip_Day)),.r (.v (.int .i64 a1_Weight))] []))]}:St)) 1 (fun p=>a0.length-p.1.1) ⟨(0,0),Nat.zero_le _,rfl,ho1⟩ (Int) (fun y1=>({sl:=[(0,.c (.r (.s 4 (r_Booking a0)))),(3,.c (.p 0 4 0 0)),(5,.c (.r (.v (.int .i64 y1))))],tab:=[(0,some (.foc 4 [] [.r (.v (.int .i64 a1_Thing)),.r (.v (.int .i64 a1_Trip_Leg)),.r (.v (.int .i64 a1_Trip_Day)),.r (.v (.int .i64 a1_Weight))] []))]}:St)) 1 (fun y=>o1=y) ?_ ?_ ?_
 ·refine Wk.of [(0,some 0)] rfl rfl ?_ ?_
  ·cbv;all_goals exact⟨⟨_,rfl,rfl⟩,⟨_,rfl,rfl⟩,⟨_,rfl,rfl⟩,trivial⟩
  cbv;all_goals exact⟨⟨_,rfl,_,rfl,rfl,rfl,rfl,rfl,trivial⟩,trivial⟩
 ·rintro⟨⟨k1,v1⟩,hk1,hi1,h_1⟩ hq1;have hm1:=(hq1.1 0 _ _ rfl);try dsimp only at hk1 hi1 h_1
  clear hq1;cbv
  by_cases hc1_:k1<a0.length
  ·have hb1:lt v1 (llen (r_Booking a0))=true:=bU hg ht hi1 hc1_;have hs1:=dt hg ht hi1 hc1_ hm1;obtain⟨z1,hz1⟩:=av hc1_;rw[aq hz1] at h_1;rw[dv] at h_1;obtain⟨z1_Thing,⟨z1_Trip_Leg,z1_Trip_Day⟩,z1_Weight⟩:=z1;try rw[←hg] at h_1
   try rw[←ht] at h_1
   try dsimp only at h_1
   rw[hb1];cbv;iterate 2 try(rw[hb1];cbv)
   refine AStep.mk (d8 hi1) ?_;cbv;refine AGet.mk _ (bL hg ht hi1 hz1) ?_;cbv;iterate 3 try(rw[hb1];cbv)
   obtain⟨x1,hx1,h_1⟩:=ag h_1;try dsimp only at h_1
   refine ACall.mk _ _ rfl (hF _ _ _ (mD hg ht hx1)) (.inl rfl) (nb rfl) ?_;cbv;try(rw[hb1];cbv)
   cases hb2:x1
   ·rw[aa hb2] at h_1;cbv;refine⟨v1,Wk.of [(0,some 0)] rfl rfl ?_ ?_,h_1.symm⟩
    ·cbv;all_goals exact⟨⟨_,rfl,rfl⟩,⟨_,rfl,rfl⟩,⟨_,rfl,rfl⟩,trivial⟩
    cbv;all_goals exact⟨⟨_,rfl,_,rfl,rfl,rfl,rfl,rfl,trivial⟩,trivial⟩
   rw[ab hb2] at h_1;cbv;try rw[hg] at h_1
   try rw[ht] at h_1
   refine⟨⟨(k1+1,(wrap .i64 (add v1 1))),hc1_,hs1,h_1⟩,Wk.of [(0,some 0)] rfl rfl ?_ ?_,aB hc1_⟩
   ·cbv;all_goals exact⟨⟨_,rfl,rfl⟩,⟨_,rfl,rfl⟩,⟨_,rfl,rfl⟩,trivial⟩
   cbv;all_goals exact⟨⟨_,rfl,_,rfl,rfl,rfl,rfl,rfl,trivial⟩,trivial⟩
  have hb1:lt v1 (llen (r_Booking a0))=false:=bM hg ht hi1 hc1_;rw[List.drop_of_length_le (Nat.le_of_not_lt hc1_)] at h_1;rw[dv] at h_1;try rw[←hg] at h_1
  try rw[←ht] at h_1
  try dsimp only at h_1
  rw[hb1];cbv;iterate 6 try(rw[hb1];cbv)
  refine⟨v1,Wk.of [(0,some 0)] rfl rfl ?_ ?_,h_1.symm⟩
  ·cbv;all_goals exact⟨⟨_,rfl,rfl⟩,⟨_,rfl,rfl⟩,⟨_,rfl,rfl⟩,trivial⟩
  cbv;all_goals exact⟨⟨_,rfl,_,rfl,rfl,rfl,rfl,rfl,trivial⟩,trivial⟩
 rintro y1 hy1;replace hy1:=hy1.symm;subst hy1;try dsimp only[lr,lrL,lrp,aH] at h
 cbv;obtain⟨hc1,h⟩:=ak h;refine AStep.mk hc1 ?_;cbv;obtain⟨l1,hl1,h⟩:=ag h;try dsimp only at h
 refine AVal.mk (r_Booking l1) (by rw[←hl1];exact mE hg ht _ _ _) ?_;cbv;obtain⟨x2,hx2,h⟩:=ae h;try dsimp only at h
 refine ACall.mk _ _ rfl (hF _ _ _ (lQ hg ht hx2)) (.inl rfl) (nb rfl) ?_;cbv;obtain⟨l2,hl2,h⟩:=ag h;try dsimp only at h
 refine ANew.mk (d_Booking l2) (dlen (d_Booking l2)) (by rw[←hl2];exact fD hg ht [(Booking.mk a1_Thing (Trip.mk a1_Trip_Leg a1_Trip_Day) a1_Weight)]) (by rw[←hl2];exact eJ hg ht [(Booking.mk a1_Thing (Trip.mk a1_Trip_Leg a1_Trip_Day) a1_Weight)]) ?_;cbv;obtain⟨hc4,h⟩:=ak h;refine AStep.mk ⟨⟨rfl,(ah hg ht _)⟩,(dC hg ht (ah hg ht _) rfl hc4)⟩ ?_;cbv;obtain⟨l3,hl3,h⟩:=ag h;try dsimp only at h
 refine ANew.mk (d_Booking l3) (dlen (d_Booking l3)) (by rw[←hl3];exact fI hg ht (ah hg ht _) rfl) (by rw[←hl3];exact eI hg ht (ah hg ht _) rfl) ?_;cbv;obtain⟨hc2,h⟩:=ak h;refine AStep.mk hc2 ?_;cbv;obtain⟨l4,hl4,h⟩:=ag h;try dsimp only at h
 refine AVal.mk (r_Booking l4) (by rw[←hl4];exact mE hg ht _ _ _) ?_;cbv;obtain⟨hc3,h⟩:=ak h;refine AStep.mk (dC hg ht (ah hg ht _) (dQ hg ht _) hc3) ?_;cbv;obtain⟨l5,hl5,h⟩:=ag h;try dsimp only at h
 refine ANew.mk (d_Booking l5) (dlen (d_Booking l5)) (by rw[←hl5];exact fI hg ht (ah hg ht _) (dQ hg ht _)) (by rw[←hl5];exact eI hg ht (ah hg ht _) (dQ hg ht _)) ?_;cbv;obtain rfl:=Option.some.inj h;exact ARet.mk ⟨rfl,(ah hg ht _)⟩ hX.symm
def E0:J:=js [jq 5 (.box 0),jq 10 (.mv (.k (.c (.n 4)))),jm 11 kf] [1,2,3,4,5] (js [jm 14 1,jc 15 156 [14],jm 12 15] [1,2,3,4,5,12] (.seq (js [jl 16 3 5,jm 17 1,jc 18 128 [16,17],jq 19 (.not 18),jm 20 19,jv 21 20 (.mv 4),jv 22 20 (.len false 21),jv 23 20 (.bin .gtr .i 22 (ki 20)),jq 24 (.pick 20 kt 23)] [1,2,3,4,5,12,24] (.cond 24 (js [jm 25 12,jm 10 25,jm 11 kf] [10,11] .ret) .skip)) (.seq (js [jm 13 (ki 0)] [1,2,3,4,5,12,13] (.bl 0 (.seq (js [jm 26 13,jm 27 4,jq 28 (.len false 27),jb 29 .lss .i 26 28] [1,2,3,4,5,12,13,29] (.cond 29 .skip (.exit 0))) (.seq (.block 1 (.reg none [jm 32 12,jm 33 2,jm 34 4,jm 35 13,ja 36 2 34 35,jl 37 2 36,jm 38 3,jq 39 (.bld [.r (.v (.int .i64 0)),.r (.v (.int .i64 0)),.r (.v (.int .i64 0)),.r (.v (.int .i64 0))] [(0,1,33),(1,2,37),(3,1,38)]),jc 40 157 [32,39],jm 12 40] [1,2,3,4,5,12,13])) (.reg none [jm 30 13,jb 31 .add .i 30 (ki 1),jm 13 31] [1,2,3,4,5,12,13]))))) (.seq (js [jl 41 3 5,jm 42 12,jc 43 128 [41,42],jq 44 (.not 43)] [1,12,44] (.cond 44 (js [jm 45 1,jc 46 156 [45],jm 10 46,jm 11 kf] [10,11] .ret) .skip)) (js [jm 47 12,jm 10 47,jm 11 kt] [10,11] .ret)))))
def Ej:List RV:=[.t 10,.t 11]
def dk (g:G) (t:TE) (a2:Int) (a3:Int):List Trip→List Booking→Option (List Booking)
 |[],w1=>
  some w1
 |z1::ls1,w1=>
  cl (np g t w1 (Booking.mk a2 z1 a3)) fun x3=>
  dk g t a2 a3 ls1 x3
def i8 (g:G) (t:TE) (a0:Network) (a1:List Booking) (a2:Int) (a3:Int) (a4:List Trip):Option ((List Booking)×Bool):=
 cl (iq g t a1) fun x1=>
 cl (dq g t a0 a1) fun x2=>
 br x2
 (
  br (g.lt 20 (g.llen (t.r_Trip a4)))
  (
   some ((x1,false)))
  (
   cl (dk g t a2 a3 a4 x1) fun y1=>
   cl (dq g t a0 y1) fun x4=>
   br x4
   (
    some ((y1,true)))
   (
    cl (iq g t a1) fun x5=>
    some ((x5,false)))))
 (
  some ((x1,false)))
theorem vA {g:G} {t:TE} {a0:Network} {a1:List Booking} {a2:Int} {a3:Int} {a4:List Trip} {r:(List Booking)×Bool} (hg:g=G.real) (ht:t=TE.real) (h:i8 g t a0 a1 a2 a3 a4=some r):Fn Tryz.prog 122 [.g (Network.rs t a0),.c (.s 4 (t.r_Booking a1)),.c (.v (.int .i64 a2)),.c (.v (.int .i64 a3)),.c (.s 2 (t.r_Trip a4))] (.u [.c (.o 4 (t.d_Booking r.1)),.c (.r (.v (.bool r.2)))]):=by
 obtain⟨X,hX⟩:=aJ (.u [.c (.o 4 (t.d_Booking r.1)),.c (.r (.v (.bool r.2)))]:X);rw[←hX];refine aE (rvs:=Ej) (j:=E0) Tryz.func122 rfl (by kernel_rfl) (nb rfl) (by kernel_rfl) ac ?_;intro g2 F hg2 hF;obtain rfl:g2=g:=hg2.unique.trans hg.symm;clear hg2;obtain⟨wrap,lt,_,_,_,_,_,_,_,_,_,_,_,add,_,_,_,_,_,_,_,llen,_,_,dlen,_,_,_,rd⟩:=g2;obtain⟨_,_,_,_,r_Leg,_,r_I64,_,r_Trip,_,r_Booking,d_Booking⟩:=t
 obtain⟨a0_Legs,a0_Off,a0_Change⟩:=a0;have hfr_Booking:∀l,cz (d_Booking l)=true:=lv ht;unfold i8 at h;try dsimp only at h
 cbv;obtain⟨x1,hx1,h⟩:=ae h;try dsimp only at h
 refine ACall.mk _ _ rfl (hF _ _ _ (lQ hg ht hx1)) (.inl rfl) (nb rfl) ?_;cbv;obtain⟨x2,hx2,h⟩:=ae h;try dsimp only at h
 refine ACall.mk _ _ rfl (hF _ _ _ (gF hg ht hx2)) (.inl rfl) (nb rfl) ?_;cbv
 cases hb1:x2
 ·rw[aa hb1] at h;cbv;iterate 3 try(rw[hb1];cbv)
  obtain rfl:=Option.some.inj h;exact ARet.mk ⟨rfl,(ah hg ht _)⟩ hX.symm
 rw[ab hb1] at h;cbv;iterate 3 try(rw[hb1];cbv)
 cases hb2:(lt 20 (llen (r_Trip a4)))
 rotate_left
 ·rw[ab hb2] at h;cbv;obtain rfl:=Option.some.inj h;exact ARet.mk ⟨rfl,(ah hg ht _)⟩ hX.symm
 rw[aa hb2] at h;cbv;obtain⟨o1,ho1,h⟩:=ae h;try dsimp only at h
 try rw[hg] at ho1
 try rw[ht] at ho1
 refine ABL.mk {p:Nat×Int×List Booking//p.1≤a4.length∧p.2.1=((p.1:Nat):Int)∧dk G.real TE.real a2 a3 (List.drop p.1 a4) p.2.2=some o1} (fun⟨⟨k1,v1,w1⟩,_⟩=>({sl:=[(1,.c (.r (.s 4 (r_Booking a1)))),(2,.c (.r (.v (.int .i64 a2)))),(3,.c (.r (.v (.int .i64 a3)))),(4,.c (.r (.s 2 (r_Trip a4)))),(5,.c (.p 0 3 0 0)),(12,.c (.f 1 4 0 (dlen (d_Booking w1)))),(13,.c (.r (.v (.int .i64 v1))))],tab:=[(0,some (.foc 3 [] [.r (.s 6 (r_Leg a0_Legs)),.r (.s 1 (r_I64 a0_Off)),.r (.v (.int .i64 a0_Change))] [])),(1,some (.arr 4 (d_Booking w1)))]}:St)) 2 (fun p=>a4.length-p.1.1) ⟨(0,0,x1),Nat.zero_le _,rfl,ho1⟩ (List Booking) (fun y1=>({sl:=[(1,.c (.r (.s 4 (r_Booking a1)))),(5,.c (.p 0 3 0 0)),(12,.c (.f 1 4 0 (dlen (d_Booking y1))))],tab:=[(0,some (.foc 3 [] [.r (.s 6 (r_Leg a0_Legs)),.r (.s 1 (r_I64 a0_Off)),.r (.v (.int .i64 a0_Change))] [])),(1,some (.arr 4 (d_Booking y1)))]}:St)) 2 (fun y=>o1=y) ?_ ?_ ?_
 ·refine Wk.of [(0,some 0),(1,some 64)] rfl rfl ?_ ?_
  ·cbv;all_goals exact⟨⟨_,rfl,rfl⟩,⟨_,rfl,rfl⟩,⟨_,rfl,rfl⟩,⟨_,rfl,rfl⟩,⟨_,rfl,rfl⟩,⟨_,rfl,rfl⟩,⟨_,rfl,rfl⟩,trivial⟩
  cbv;all_goals exact⟨⟨_,rfl,_,rfl,rfl,rfl,rfl,trivial⟩,⟨_,rfl,rfl⟩,trivial⟩
 ·rintro⟨⟨k1,v1,w1⟩,hk1,hi1,h_1⟩ hq1;have hm1:=(hq1.1 4 _ _ rfl);try dsimp only at hk1 hi1 h_1
  clear hq1;cbv
  by_cases hc1_:k1<a4.length
  ·have hb3:lt v1 (llen (r_Trip a4))=true:=cK hg ht hi1 hc1_;have hs1:=eE hg ht hi1 hc1_ hm1;obtain⟨z1,hz1⟩:=av hc1_;rw[aq hz1] at h_1;rw[dk] at h_1;obtain⟨z1_Leg,z1_Day⟩:=z1;try rw[←hg] at h_1
   try rw[←ht] at h_1
   try dsimp only at h_1
   rw[hb3];cbv;refine AStep.mk (d8 hi1) ?_;cbv;refine AGet.mk _ (cN hg ht hi1 hz1) ?_;cbv;refine AStep.mk (fV ht (ah hg ht _)) ?_;cbv;obtain⟨x3,hx3,h_1⟩:=ae h_1;try dsimp only at h_1
   refine ACall.mk _ _ (by rw[show rd (d_Booking w1) 0 (dlen (d_Booking w1))=r_Booking w1 from gm hg ht (ah hg ht _)];try rfl) (hF _ _ _ (zf hg ht hx3)) (.inr (by simp only[Go.Vs.X.fresh,Go.Vs.X.freshs,fq,cr,Bool.and_self,hfr_Booking])) (nb rfl) ?_
   cbv;try rw[hg] at h_1
   try rw[ht] at h_1
   refine⟨⟨(k1+1,(wrap .i64 (add v1 1)),x3),hc1_,hs1,h_1⟩,Wk.of [(0,some 0),(1,some 194)] rfl rfl ?_ ?_,aB hc1_⟩
   ·cbv;all_goals exact⟨⟨_,rfl,rfl⟩,⟨_,rfl,rfl⟩,⟨_,rfl,rfl⟩,⟨_,rfl,rfl⟩,⟨_,rfl,rfl⟩,⟨_,rfl,rfl⟩,⟨_,rfl,rfl⟩,trivial⟩
   cbv;all_goals exact⟨⟨_,rfl,_,rfl,rfl,rfl,rfl,trivial⟩,⟨_,rfl,rfl⟩,trivial⟩
  have hb3:lt v1 (llen (r_Trip a4))=false:=cf hg ht hi1 hc1_;rw[List.drop_of_length_le (Nat.le_of_not_lt hc1_)] at h_1;rw[dk] at h_1;try rw[←hg] at h_1
  try rw[←ht] at h_1
  try dsimp only at h_1
  rw[hb3];cbv;refine⟨w1,Wk.of [(0,some 0),(1,some 1)] rfl rfl ?_ ?_,(Option.some.inj h_1).symm⟩
  ·cbv;all_goals exact⟨⟨_,rfl,rfl⟩,⟨_,rfl,rfl⟩,⟨_,rfl,rfl⟩,trivial⟩
  cbv;all_goals exact⟨⟨_,rfl,_,rfl,rfl,rfl,rfl,trivial⟩,⟨_,rfl,rfl⟩,trivial⟩
 rintro y1 hy1;replace hy1:=hy1.symm;subst hy1;try dsimp only[lr,lrL,lrp,aH] at h
 cbv;refine AStep.mk (fV ht (ah hg ht _)) ?_;cbv;obtain⟨x4,hx4,h⟩:=ae h;try dsimp only at h
 refine ACall.mk _ _ (by rw[show rd (d_Booking y1) 0 (dlen (d_Booking y1))=r_Booking y1 from gm hg ht (ah hg ht _)];try rfl) (hF _ _ _ (gF hg ht hx4)) (.inr rfl) (nb rfl) ?_
 cbv
 cases hb4:x4
 rotate_left
 ·rw[ab hb4] at h;cbv;obtain rfl:=Option.some.inj h;exact ARet.mk ⟨rfl,(ah hg ht _)⟩ hX.symm
 rw[aa hb4] at h;cbv;obtain⟨x5,hx5,h⟩:=ae h;try dsimp only at h
 refine ACall.mk _ _ rfl (hF _ _ _ (lQ hg ht hx5)) (.inl rfl) (nb rfl) ?_;cbv;obtain rfl:=Option.some.inj h;exact ARet.mk ⟨rfl,(ah hg ht _)⟩ hX.symm
def ir66:J:=js [jq 4 (.box 1),jq 6 (.mv (.k (.c (.n 4))))] [0,2,4] (js [jq 14 (.bsl 4 []),jm 7 14] [0,2,4,7] (.seq (js [jm 15 0,jm 16 2,jq 17 (.callm 90 true 15 [16]),jm 8 17] [0,4,7,8] (.bl 0 (.seq (js [jm 18 8,jb 19 .gtr .i 18 (ki 0)] [0,4,7,8,19] (.cond 19 .skip (.exit 0))) (.seq (.block 1 (js [jm 22 0,jq 23 (.callm 90 true 22 [(ki 9000)]),jb 24 .add .i (ki 1) 23,jm 9 24] [0,4,7,8,9] (.seq (.reg (some [[],[],[],[],[],[3,4],[],[],[3,4,5,6,7],[],[3,4,5,6,7,8,9],[3,4,5,6,7,8,9,10],[],[0,1,2,3,4,5,6,7,8,9,10,11,12],[0,1,2,3,4,5,6,7,8,9,10,11,12,13],[0,1,2,3,4,5,6,7,8,9,10,11,12,13,14],[0,1,2,3,4,5,6,7,8,9,10,11,12,13,14],[0,1,2,3,4,5,6,7,8,9,10,11,12,13,14,15],[0,1,2,3,4,5,6,7,8,9,10,11,12,13,14,15,16,17]]) [jl 26 3 4,jm 27 7,jq 28 (.bsl 2 []),jm 29 0,jl 30 3 4,jq 31 (.callm 70 true 29 [30]),jm 32 0,jl 33 3 4,jq 34 (.callm 70 true 32 [33]),jm 35 0,jq 36 (.callm 90 true 35 [(ki 100)]),jb 37 .mul .i (ki 60) 36,jm 38 9,jc 39 24 [26,27,28,31,34,37,38],jm 25 39,jq 40 (.ext 0 25),jq 41 (.ext 1 25),jm 10 40,jm 11 41] [0,4,7,8,9,10]) (.seq (.reg (some [[],[],[],[2],[2,3],[],[],[0,1,2,3,4,5,6],[0,1,2,3,4,5,6,7],[0,1,2,3,4,5,6,7,8],[0,1,2,3,4,5,6,7,8],[0,1,2,3,4,5,6,7,8,9],[0,1,2,3,4,5,6,7,8,9,10,11]]) [jl 43 3 4,jm 44 7,jm 45 0,jq 46 (.callm 90 true 45 [(ki 12)]),jb 47 .add .i (ki 1) 46,jm 48 9,jm 49 10,jc 50 122 [43,44,47,48,49],jm 42 50,jq 51 (.ext 0 42),jq 52 (.ext 1 42),jm 12 51,jm 13 52] [0,4,8,12]) (.reg none [jm 53 12,jm 7 53] [0,4,7,8]))))) (.reg none [jm 20 8,jb 21 .sub .i 20 (ki 1),jm 8 21] [0,4,7,8]))))) (js [jm 54 7,jm 6 54] [6] .ret)))
def rv66:List RV:=[.t 6]
def dL (g:G) (t:TE) (a1:Network):Nat→List Int→Int→Int→List Booking→Int→Option ((List Int)×Int×Int×List Booking)
 |0,_,_,_,_,_=>none
 |n1+1,v1,v2,v3,w1,v4=>
  br (g.lt 0 v4)
  (
   cl (aL g t (Cur.mk v1 v2 v3) 9000) fun x2=>
   lP ([]) fun(l2:List Trip)=>
   cl (iQ g t (Cur.mk x2.2.b x2.2.i x2.2.h) a1) fun x3=>
   cl (iQ g t (Cur.mk x3.2.b x3.2.i x3.2.h) a1) fun x4=>
   cl (aL g t (Cur.mk x4.2.b x4.2.i x4.2.h) 100) fun x5=>
   cl (fj g t a1 w1 l2 x3.1 x4.1 (g.wrap .i64 (g.mul 60 x5.1)) (g.wrap .i64 (g.add 1 x2.1))) fun x6=>
   cl (aL g t (Cur.mk x5.2.b x5.2.i x5.2.h) 12) fun x7=>
   cl (i8 g t a1 w1 (g.wrap .i64 (g.add 1 x7.1)) (g.wrap .i64 (g.add 1 x2.1)) x6.1) fun x8=>
   dL g t a1 n1 x7.2.b x7.2.i x7.2.h x8.1 (g.wrap .i64 (g.sub v4 1)))
  (
   some (v1,v2,v3,w1))
def i6 (g:G) (t:TE) (a0:Cur) (a1:Network) (a2:Int):Option ((List Booking)×Cur):=
 lP ([]) fun(l1:List Booking)=>
 cl (aL g t a0 a2) fun x1=>
 cl (dL g t a1 1000000000 x1.2.b x1.2.i x1.2.h l1 x1.1) fun y1=>
 some ((y1.2.2.2,(Cur.mk y1.1 y1.2.1 y1.2.2.1)))
theorem qe {g:G} {t:TE} {a0:Cur} {a1:Network} {a2:Int} {r:(List Booking)×Cur} (hg:g=G.real) (ht:t=TE.real) (h:i6 g t a0 a1 a2=some r):FnM Tryz.prog 66 (.p (Cur.ds t a0)) [.g (Network.rs t a1),.c (.v (.int .i64 a2))] (.c (.o 4 (t.d_Booking r.1))) (.p (Cur.ds t r.2)):=by
 obtain⟨X,hX⟩:=aJ (.c (.o 4 (t.d_Booking r.1)):X);obtain⟨Y,hY⟩:=aJ (.p (Cur.ds t r.2):AM);rw[←hX,←hY];refine fm (rvs:=rv66) (j:=ir66) Tryz.func66 rfl (by kernel_rfl) (nb rfl) (by kernel_rfl) ac ?_;intro g2 F hg2 hF;obtain rfl:g2=g:=hg2.unique.trans hg.symm;clear hg2;obtain⟨wrap,lt,_,_,_,_,_,_,_,_,_,_,_,_,sub,_,_,_,_,_,_,_,_,_,dlen,_,_,_,rd⟩:=g2;obtain⟨r_U8,_,_,_,r_Leg,_,r_I64,_,r_Trip,d_Trip,r_Booking,d_Booking⟩:=t
 obtain⟨a0_b,a0_i,a0_h⟩:=a0;obtain⟨a1_Legs,a1_Off,a1_Change⟩:=a1;have hfr_Trip:∀l,cz (d_Trip l)=true:=vI ht;have hfr_Booking:∀l,cz (d_Booking l)=true:=lv ht;unfold i6 at h;try dsimp only at h
 cbv;obtain⟨l1,hl1,h⟩:=ag h;try dsimp only at h
 refine ANew.mk (d_Booking l1) (dlen (d_Booking l1)) (by rw[←hl1];exact fD hg ht []) (by rw[←hl1];exact eJ hg ht []) ?_;cbv;obtain⟨x1,hx1,h⟩:=ae h;obtain⟨x1_1,⟨x1_2_b,x1_2_i,x1_2_h⟩⟩:=x1;try dsimp only at h
 refine ACallM.mk _ _ _ _ rfl rfl (hF _ _ _ (aC hg ht hx1)) rfl (nb rfl) (nb rfl) ?_;cbv;obtain⟨o1,ho1,h⟩:=ae h;try dsimp only at h
 try rw[hg] at ho1
 try rw[ht] at ho1
 refine ABL.mk {p:Nat×(List Int)×Int×Int×(List Booking)×Int//dL G.real TE.real (Network.mk a1_Legs a1_Off a1_Change) p.1 p.2.1 p.2.2.1 p.2.2.2.1 p.2.2.2.2.1 p.2.2.2.2.2=some o1} (fun⟨⟨n1,v1,v2,v3,w1,v4⟩,_⟩=>({sl:=[(0,.c (.p 3 3 0 0)),(4,.c (.p 0 3 0 0)),(7,.c (.f 1 4 0 (dlen (d_Booking w1)))),(8,.c (.r (.v (.int .i64 v4))))],tab:=[(0,some (.foc 3 [] [.r (.s 6 (r_Leg a1_Legs)),.r (.s 1 (r_I64 a1_Off)),.r (.v (.int .i64 a1_Change))] [])),(1,some (.arr 4 (d_Booking w1))),(3,some (.foc 3 [] [.r (.s 1 (r_U8 v1)),.r (.v (.int .i64 v2)),.r (.v (.int .i64 v3))] []))]}:St)) 4 (fun p=>p.1.1) ⟨(1000000000,x1_2_b,x1_2_i,x1_2_h,l1,x1_1),ho1⟩ ((List Int)×Int×Int×List Booking) (fun⟨y1_1,y1_2_1,y1_2_2_1,y1_2_2_2⟩=>({sl:=[(7,.c (.f 0 4 0 (dlen (d_Booking y1_2_2_2))))],tab:=[(0,some (.arr 4 (d_Booking y1_2_2_2))),(3,some (.foc 3 [] [.r (.s 1 (r_U8 y1_1)),.r (.v (.int .i64 y1_2_1)),.r (.v (.int .i64 y1_2_2_1))] []))]}:St)) 4 (fun y=>o1=y) ?_ ?_ ?_
 ·refine Wk.of [(0,some 4),(1,some 36),(3,some 3)] rfl rfl ?_ ?_
  ·cbv;all_goals exact⟨⟨_,rfl,rfl⟩,⟨_,rfl,rfl⟩,⟨_,rfl,rfl⟩,⟨_,rfl,rfl⟩,trivial⟩
  cbv;all_goals exact⟨⟨_,rfl,_,rfl,rfl,rfl,rfl,trivial⟩,⟨_,rfl,rfl⟩,⟨_,rfl,_,rfl,rfl,rfl,rfl,trivial⟩,trivial⟩
 ·rintro⟨⟨n1,v1,v2,v3,w1,v4⟩,h_1⟩ hq1;try dsimp only at h_1
  clear hq1;rcases n1 with _|n1
  ·rw[dL] at h_1;cases h_1
  rw[dL] at h_1;try rw[←hg] at h_1
  try rw[←ht] at h_1
  try dsimp only at h_1
  cbv
  cases hb1:(lt 0 v4)
  ·rw[aa hb1] at h_1;cbv;refine⟨(v1,v2,v3,w1),Wk.of [(0,some 1),(3,some 3)] rfl rfl ?_ ?_,(Option.some.inj h_1).symm⟩
   ·cbv;all_goals exact⟨⟨_,rfl,rfl⟩,trivial⟩
   cbv;all_goals exact⟨⟨_,rfl,rfl⟩,⟨_,rfl,_,rfl,rfl,rfl,rfl,trivial⟩,trivial⟩
  rw[ab hb1] at h_1;cbv;obtain⟨x2,hx2,h_1⟩:=ae h_1;obtain⟨x2_1,⟨x2_2_b,x2_2_i,x2_2_h⟩⟩:=x2;try dsimp only at h_1
  refine ACallM.mk _ _ _ _ rfl rfl (hF _ _ _ (aC hg ht hx2)) rfl (nb rfl) (nb rfl) ?_;cbv;obtain⟨l2,hl2,h_1⟩:=ag h_1;try dsimp only at h_1
  refine ANew.mk (d_Trip l2) (dlen (d_Trip l2)) (by rw[←hl2];exact ed hg ht []) (by rw[←hl2];exact dH hg ht []) ?_;cbv;obtain⟨x3,hx3,h_1⟩:=ae h_1;obtain⟨x3_1,⟨x3_2_b,x3_2_i,x3_2_h⟩⟩:=x3;try dsimp only at h_1
  refine ACallM.mk _ _ _ _ rfl rfl (hF _ _ _ (i4 hg ht hx3)) rfl (nb rfl) (nb rfl) ?_;cbv;obtain⟨x4,hx4,h_1⟩:=ae h_1;obtain⟨x4_1,⟨x4_2_b,x4_2_i,x4_2_h⟩⟩:=x4;try dsimp only at h_1
  refine ACallM.mk _ _ _ _ rfl rfl (hF _ _ _ (i4 hg ht hx4)) rfl (nb rfl) (nb rfl) ?_;cbv;obtain⟨x5,hx5,h_1⟩:=ae h_1;obtain⟨x5_1,⟨x5_2_b,x5_2_i,x5_2_h⟩⟩:=x5;try dsimp only at h_1
  refine ACallM.mk _ _ _ _ rfl rfl (hF _ _ _ (aC hg ht hx5)) rfl (nb rfl) (nb rfl) ?_;cbv;refine AStep.mk ⟨(fV ht (ah hg ht _)),(rM ht (aw hg ht _))⟩ ?_;cbv;obtain⟨x6,hx6,h_1⟩:=ae h_1;obtain⟨x6_1,x6_2⟩:=x6;try dsimp only at h_1
  refine ACall.mk _ _ (by rw[show rd (d_Booking w1) 0 (dlen (d_Booking w1))=r_Booking w1 from gm hg ht (ah hg ht _),show rd (d_Trip l2) 0 (dlen (d_Trip l2))=r_Trip l2 from tS hg ht (aw hg ht _)];try rfl) (hF _ _ _ (my hg ht hx6)) (.inr (by simp only[Go.Vs.X.fresh,Go.Vs.X.freshs,fq,cr,Bool.and_self,hfr_Trip])) (nb rfl) ?_
  cbv;obtain⟨x7,hx7,h_1⟩:=ae h_1;obtain⟨x7_1,⟨x7_2_b,x7_2_i,x7_2_h⟩⟩:=x7;try dsimp only at h_1
  refine ACallM.mk _ _ _ _ rfl rfl (hF _ _ _ (aC hg ht hx7)) rfl (nb rfl) (nb rfl) ?_;cbv;refine AStep.mk ⟨(fV ht (ah hg ht _)),(rM ht (aw hg ht _))⟩ ?_;cbv;obtain⟨x8,hx8,h_1⟩:=ae h_1;obtain⟨x8_1,x8_2⟩:=x8;try dsimp only at h_1
  refine ACall.mk _ _ (by rw[show rd (d_Booking w1) 0 (dlen (d_Booking w1))=r_Booking w1 from gm hg ht (ah hg ht _),show rd (d_Trip x6_1) 0 (dlen (d_Trip x6_1))=r_Trip x6_1 from tS hg ht (aw hg ht _)];try rfl) (hF _ _ _ (vA hg ht hx8)) (.inr (by simp only[Go.Vs.X.fresh,Go.Vs.X.freshs,fq,cr,Bool.and_self,hfr_Booking])) (nb rfl) ?_
  cbv;try rw[hg] at h_1
  try rw[ht] at h_1
  refine⟨⟨(n1,x7_2_b,x7_2_i,x7_2_h,x8_1,(wrap .i64 (sub v4 1))),h_1⟩,Wk.of [(0,some 0),(1,some 516),(3,some 3)] rfl rfl ?_ ?_,Nat.lt_succ_self _⟩
  ·cbv;all_goals exact⟨⟨_,rfl,rfl⟩,⟨_,rfl,rfl⟩,⟨_,rfl,rfl⟩,⟨_,rfl,rfl⟩,trivial⟩
  cbv;all_goals exact⟨⟨_,rfl,_,rfl,rfl,rfl,rfl,trivial⟩,⟨_,rfl,rfl⟩,⟨_,rfl,_,rfl,rfl,rfl,rfl,trivial⟩,trivial⟩
 rintro⟨y1_1,y1_2_1,y1_2_2_1,y1_2_2_2⟩ hy1;replace hy1:=hy1.symm;subst hy1;try dsimp only[lr,lrL,lrp,aH] at h
 cbv;obtain rfl:=Option.some.inj h;exact ARetM.mk ⟨rfl,(ah hg ht _)⟩ hX.symm hY.symm
def ir68:J:=js [jq 3 (.box 1),jq 4 (.mv (.k (.c (.n 4))))] [0,3] (js [jm 7 0,jl 8 3 3,jq 9 (.callm 66 true 7 [8,(ki 6)]),jm 5 9] [0,3,5] (.seq (js [jm 10 5,jq 11 (.len false 10),jb 12 .eql .i 11 (ki 0)] [0,3,5,12] (.cond 12 (js [jm 13 5,jm 4 13] [4] .ret) .skip)) (js [jm 14 0,jm 15 5,jq 16 (.len false 15),jq 17 (.callm 90 true 14 [16]),jm 6 17] [0,3,5,6] (.seq (js [jm 18 0,jq 19 (.callm 90 true 18 [(ki 9)])] [0,3,5,6,19] (.block 0 (js [jb 21 .eql .i 19 (ki 0),jm 20 21] [0,3,5,6,19,20] (.cond 20 (.reg none [jm 22 5,jm 23 6,jm 24 0,jq 25 (.bslr 1 [(ki 0),(ki 1),(ki 60000),(ki 1000001),(.k (V.i (-1)))]),jq 26 (.callm 72 true 24 [25]),ja 27 4 22 23,jf 28 3 27,jp (.st 1 28 26)] [5]) (js [jb 30 .eql .i 19 (ki 1),jm 29 30] [0,3,5,6,19,29] (.cond 29 (.reg none [jm 31 5,jm 32 6,jm 33 0,jq 34 (.bslr 1 [(ki 0),(ki 1),(ki 9999),(ki 10000)]),jq 35 (.callm 72 true 33 [34]),ja 36 4 31 32,jf 37 0 36,jp (.st 1 37 35)] [5]) (js [jb 39 .eql .i 19 (ki 2),jm 38 39] [0,3,5,6,19,38] (.cond 38 (.reg none [jm 40 5,jm 41 6,jm 42 5,jm 43 6,ja 44 4 42 43,jf 45 1 44,jf 46 1 45,jk 47 46,jb 48 .add .i 47 (ki 1),ja 49 4 40 41,jf 50 1 49,jf 51 1 50,jp (.st 1 51 48)] [5]) (js [jb 53 .eql .i 19 (ki 3),jm 52 53] [0,3,5,6,19,52] (.cond 52 (.reg none [jm 54 5,jm 55 5,jm 56 6,ja 57 4 55 56,jl 58 4 57,jq 59 (.bsl 4 [58]),jq 60 (.app 4 32 true 54 59),jm 5 60] [5]) (js [jb 62 .eql .i 19 (ki 4),jm 61 62] [0,3,5,6,61] (.cond 61 (.reg none [jm 63 5,jm 64 6,jm 65 0,jf 66 0 3,jk 67 66,jq 68 (.len false 67),jq 69 (.bslr 1 [(.k (V.i (-1))),68,(ki 0)]),jq 70 (.callm 72 true 65 [69]),ja 71 4 63 64,jf 72 1 71,jf 73 0 72,jp (.st 1 73 70)] [5]) .skip)))))))))))) (js [jm 74 5,jm 4 74] [4] .ret)))))
def rv68:List RV:=[.t 4]
def no (g:G) (t:TE) (a0:Cur) (a1:Network):Option ((List Booking)×Cur):=
 cl (i6 g t a0 a1 6) fun x1=>
 br (g.eq (g.int (g.dlen (t.d_Booking x1.1))) 0)
 (
  some ((x1.1,(Cur.mk x1.2.b x1.2.i x1.2.h))))
 (
  cl (aL g t (Cur.mk x1.2.b x1.2.i x1.2.h) (g.int (g.dlen (t.d_Booking x1.1)))) fun x2=>
  cl (aL g t (Cur.mk x2.2.b x2.2.i x2.2.h) 9) fun x3=>
  br (g.eq x3.1 0)
  (
   lP ([0,1,60000,1000001,(-1)]) fun(l1:List Int)=>
   cl (fh g t (Cur.mk x3.2.b x3.2.i x3.2.h) l1) fun x4=>
   gd (((0:Int)≤x2.1∧x2.1<(((g.dlen (t.d_Booking x1.1)):Nat):Int)))<|
   gt x1.1 (g.nat x2.1) fun x5=>
   lP (List.set x1.1 (g.nat x2.1) (Booking.mk x5.Thing (Trip.mk x5.Trip.Leg x5.Trip.Day) x4.1)) fun(l2:List Booking)=>
   some ((l2,(Cur.mk x4.2.b x4.2.i x4.2.h))))
  (
   br (g.eq x3.1 1)
   (
    lP ([0,1,9999,10000]) fun(l3:List Int)=>
    cl (fh g t (Cur.mk x3.2.b x3.2.i x3.2.h) l3) fun x6=>
    gd (((0:Int)≤x2.1∧x2.1<(((g.dlen (t.d_Booking x1.1)):Nat):Int)))<|
    gt x1.1 (g.nat x2.1) fun x7=>
    lP (List.set x1.1 (g.nat x2.1) (Booking.mk x6.1 (Trip.mk x7.Trip.Leg x7.Trip.Day) x7.Weight)) fun(l4:List Booking)=>
    some ((l4,(Cur.mk x6.2.b x6.2.i x6.2.h))))
   (
    br (g.eq x3.1 2)
    (
     gd (((0:Int)≤x2.1∧x2.1<(((g.dlen (t.d_Booking x1.1)):Nat):Int)))<|
     gt x1.1 (g.nat x2.1) fun x8=>
     gd (((0:Int)≤x2.1∧x2.1<(((g.dlen (t.d_Booking x1.1)):Nat):Int)))<|
     lP (List.set x1.1 (g.nat x2.1) (Booking.mk x8.Thing (Trip.mk x8.Trip.Leg (g.wrap .i64 (g.add x8.Trip.Day 1))) x8.Weight)) fun(l5:List Booking)=>
     some ((l5,(Cur.mk x3.2.b x3.2.i x3.2.h))))
    (
     br (g.eq x3.1 3)
     (
      gd (((0:Int)≤x2.1∧x2.1<(((g.dlen (t.d_Booking x1.1)):Nat):Int)))<|
      gt x1.1 (g.nat x2.1) fun x9=>
      lP ([(Booking.mk x9.Thing (Trip.mk x9.Trip.Leg x9.Trip.Day) x9.Weight)]) fun(l6:List Booking)=>
      gd (((x1.1.length+l6.length)*32≤70368744177664))<|
      lP (x1.1++l6) fun(l7:List Booking)=>
      some ((l7,(Cur.mk x3.2.b x3.2.i x3.2.h))))
     (
      br (g.eq x3.1 4)
      (
       lP ([(-1),(g.llen (t.r_Leg a1.Legs)),0]) fun(l8:List Int)=>
       cl (fh g t (Cur.mk x3.2.b x3.2.i x3.2.h) l8) fun x10=>
       gd (((0:Int)≤x2.1∧x2.1<(((g.dlen (t.d_Booking x1.1)):Nat):Int)))<|
       gt x1.1 (g.nat x2.1) fun x11=>
       lP (List.set x1.1 (g.nat x2.1) (Booking.mk x11.Thing (Trip.mk x10.1 x11.Trip.Day) x11.Weight)) fun(l9:List Booking)=>
       some ((l9,(Cur.mk x10.2.b x10.2.i x10.2.h))))
      (
       some ((x1.1,(Cur.mk x3.2.b x3.2.i x3.2.h)))))))))
theorem zg {g:G} {t:TE} {a0:Cur} {a1:Network} {r:(List Booking)×Cur} (hg:g=G.real) (ht:t=TE.real) (h:no g t a0 a1=some r):FnM Tryz.prog 68 (.p (Cur.ds t a0)) [.g (Network.rs t a1)] (.c (.o 4 (t.d_Booking r.1))) (.p (Cur.ds t r.2)):=by
 obtain⟨X,hX⟩:=aJ (.c (.o 4 (t.d_Booking r.1)):X);obtain⟨Y,hY⟩:=aJ (.p (Cur.ds t r.2):AM);rw[←hX,←hY];refine fm (rvs:=rv68) (j:=ir68) Tryz.func68 rfl (by kernel_rfl) (nb rfl) (by kernel_rfl) ac ?_;intro g2 F hg2 hF;obtain rfl:g2=g:=hg2.unique.trans hg.symm;clear hg2;obtain⟨wrap,_,_,eq,_,_,_,_,_,_,_,_,int,add,_,_,_,_,_,_,_,llen,_,_,dlen⟩:=g2;obtain⟨_,_,_,_,r_Leg,_,r_I64,_,_,_,_,d_Booking⟩:=t
 obtain⟨a0_b,a0_i,a0_h⟩:=a0;obtain⟨a1_Legs,a1_Off,a1_Change⟩:=a1;unfold no at h;try dsimp only at h
 cbv;obtain⟨x1,hx1,h⟩:=ae h;obtain⟨x1_1,⟨x1_2_b,x1_2_i,x1_2_h⟩⟩:=x1;try dsimp only at h
 refine ACallM.mk _ _ _ _ rfl rfl (hF _ _ _ (qe hg ht hx1)) rfl (nb rfl) (nb rfl) ?_;cbv
 cases hb1:(eq (int (dlen (d_Booking x1_1))) 0)
 rotate_left
 ·rw[ab hb1] at h;cbv;obtain rfl:=Option.some.inj h;exact ARetM.mk ⟨rfl,(ah hg ht _)⟩ hX.symm hY.symm
 rw[aa hb1] at h;cbv;obtain⟨x2,hx2,h⟩:=ae h;obtain⟨x2_1,⟨x2_2_b,x2_2_i,x2_2_h⟩⟩:=x2;try dsimp only at h
 refine ACallM.mk _ _ _ _ rfl rfl (hF _ _ _ (aC hg ht hx2)) rfl (nb rfl) (nb rfl) ?_;cbv;obtain⟨x3,hx3,h⟩:=ae h;obtain⟨x3_1,⟨x3_2_b,x3_2_i,x3_2_h⟩⟩:=x3;try dsimp only at h
 refine ACallM.mk _ _ _ _ rfl rfl (hF _ _ _ (aC hg ht hx3)) rfl (nb rfl) (nb rfl) ?_;cbv
 cases hb2:(eq x3_1 0)
 rotate_left
 ·rw[ab hb2] at h;cbv;obtain⟨l1,hl1,h⟩:=ag h;try dsimp only at h
  refine AVal.mk (r_I64 l1) (by rw[←hl1];exact gC hg ht [0,1,60000,1000001,(-1)]) ?_;cbv;obtain⟨x4,hx4,h⟩:=ae h;obtain⟨x4_1,⟨x4_2_b,x4_2_i,x4_2_h⟩⟩:=x4;try dsimp only at h
  refine ACallM.mk _ _ _ _ rfl rfl (hF _ _ _ (fA hg ht hx4)) rfl (nb rfl) (nb rfl) ?_;cbv;obtain⟨hc1,h⟩:=ak h;refine AStep.mk hc1 ?_;cbv;obtain⟨x5,hx5,h⟩:=aV h;obtain⟨x5_Thing,⟨x5_Trip_Leg,x5_Trip_Day⟩,x5_Weight⟩:=x5;try dsimp only at h
  refine AGet.mk _ (dZ hg ht hx5) ?_;cbv;obtain⟨l2,hl2,h⟩:=ag h;try dsimp only at h
  refine ANew.mk (d_Booking l2) _ (by rw[←hl2];exact gT hg ht _ _ (Booking.mk x5_Thing (Trip.mk x5_Trip_Leg x5_Trip_Day) x4_1)) rfl ?_;have hnl2:(dlen (d_Booking x1_1))=(d_Booking l2).length:=(by rw[←hl2,gl ht];exact(ah hg ht _));cbv;obtain rfl:=Option.some.inj h;exact ARetM.mk ⟨rfl,hnl2⟩ hX.symm hY.symm
 rw[aa hb2] at h;cbv
 cases hb3:(eq x3_1 1)
 rotate_left
 ·rw[ab hb3] at h;cbv;obtain⟨l3,hl3,h⟩:=ag h;try dsimp only at h
  refine AVal.mk (r_I64 l3) (by rw[←hl3];exact gC hg ht [0,1,9999,10000]) ?_;cbv;obtain⟨x6,hx6,h⟩:=ae h;obtain⟨x6_1,⟨x6_2_b,x6_2_i,x6_2_h⟩⟩:=x6;try dsimp only at h
  refine ACallM.mk _ _ _ _ rfl rfl (hF _ _ _ (fA hg ht hx6)) rfl (nb rfl) (nb rfl) ?_;cbv;obtain⟨hc2,h⟩:=ak h;refine AStep.mk hc2 ?_;cbv;obtain⟨x7,hx7,h⟩:=aV h;obtain⟨x7_Thing,⟨x7_Trip_Leg,x7_Trip_Day⟩,x7_Weight⟩:=x7;try dsimp only at h
  refine AGet.mk _ (dZ hg ht hx7) ?_;cbv;obtain⟨l4,hl4,h⟩:=ag h;try dsimp only at h
  refine ANew.mk (d_Booking l4) _ (by rw[←hl4];exact gT hg ht _ _ (Booking.mk x6_1 (Trip.mk x7_Trip_Leg x7_Trip_Day) x7_Weight)) rfl ?_;have hnl4:(dlen (d_Booking x1_1))=(d_Booking l4).length:=(by rw[←hl4,gl ht];exact(ah hg ht _));cbv;obtain rfl:=Option.some.inj h;exact ARetM.mk ⟨rfl,hnl4⟩ hX.symm hY.symm
 rw[aa hb3] at h;cbv
 cases hb4:(eq x3_1 2)
 rotate_left
 ·rw[ab hb4] at h;cbv;obtain⟨hc3,h⟩:=ak h;refine AStep.mk hc3 ?_;cbv;obtain⟨x8,hx8,h⟩:=aV h;obtain⟨x8_Thing,⟨x8_Trip_Leg,x8_Trip_Day⟩,x8_Weight⟩:=x8;try dsimp only at h
  refine AGet.mk _ (dZ hg ht hx8) ?_;cbv;obtain⟨hc4,h⟩:=ak h;refine AStep.mk hc4 ?_;cbv;refine AGet.mk _ (dZ hg ht hx8) ?_;cbv;obtain⟨l5,hl5,h⟩:=ag h;try dsimp only at h
  refine ANew.mk (d_Booking l5) _ (by rw[←hl5];exact gT hg ht _ _ (Booking.mk x8_Thing (Trip.mk x8_Trip_Leg (wrap .i64 (add x8_Trip_Day 1))) x8_Weight)) rfl ?_;have hnl5:(dlen (d_Booking x1_1))=(d_Booking l5).length:=(by rw[←hl5,gl ht];exact(ah hg ht _));cbv;obtain rfl:=Option.some.inj h;exact ARetM.mk ⟨rfl,hnl5⟩ hX.symm hY.symm
 rw[aa hb4] at h;cbv
 cases hb5:(eq x3_1 3)
 rotate_left
 ·rw[ab hb5] at h;cbv;obtain⟨hc5,h⟩:=ak h;refine AStep.mk hc5 ?_;cbv;obtain⟨x9,hx9,h⟩:=aV h;obtain⟨x9_Thing,⟨x9_Trip_Leg,x9_Trip_Day⟩,x9_Weight⟩:=x9;try dsimp only at h
  refine AGet.mk _ (dZ hg ht hx9) ?_;cbv;obtain⟨l6,hl6,h⟩:=ag h;try dsimp only at h
  refine ANew.mk (d_Booking l6) (dlen (d_Booking l6)) (by rw[←hl6];exact fD hg ht [(Booking.mk x9_Thing (Trip.mk x9_Trip_Leg x9_Trip_Day) x9_Weight)]) (by rw[←hl6];exact eJ hg ht [(Booking.mk x9_Thing (Trip.mk x9_Trip_Leg x9_Trip_Day) x9_Weight)]) ?_;cbv;obtain⟨hc6,h⟩:=ak h;refine AStep.mk ⟨⟨rfl,(ah hg ht _)⟩,(dC hg ht (ah hg ht _) rfl hc6)⟩ ?_;cbv;obtain⟨l7,hl7,h⟩:=ag h;try dsimp only at h
  refine ANew.mk (d_Booking l7) (dlen (d_Booking l7)) (by rw[←hl7];exact fI hg ht (ah hg ht _) rfl) (by rw[←hl7];exact eI hg ht (ah hg ht _) rfl) ?_;cbv;obtain rfl:=Option.some.inj h;exact ARetM.mk ⟨rfl,(ah hg ht _)⟩ hX.symm hY.symm
 rw[aa hb5] at h;cbv
 cases hb6:(eq x3_1 4)
 ·rw[aa hb6] at h;cbv;obtain rfl:=Option.some.inj h;exact ARetM.mk ⟨rfl,(ah hg ht _)⟩ hX.symm hY.symm
 rw[ab hb6] at h;cbv;obtain⟨l8,hl8,h⟩:=ag h;try dsimp only at h
 refine AVal.mk (r_I64 l8) (by rw[←hl8];exact gC hg ht [(-1),(llen (r_Leg a1_Legs)),0]) ?_;cbv;obtain⟨x10,hx10,h⟩:=ae h;obtain⟨x10_1,⟨x10_2_b,x10_2_i,x10_2_h⟩⟩:=x10;try dsimp only at h
 refine ACallM.mk _ _ _ _ rfl rfl (hF _ _ _ (fA hg ht hx10)) rfl (nb rfl) (nb rfl) ?_;cbv;obtain⟨hc7,h⟩:=ak h;refine AStep.mk hc7 ?_;cbv;obtain⟨x11,hx11,h⟩:=aV h;obtain⟨x11_Thing,⟨x11_Trip_Leg,x11_Trip_Day⟩,x11_Weight⟩:=x11;try dsimp only at h
 refine AGet.mk _ (dZ hg ht hx11) ?_;cbv;obtain⟨l9,hl9,h⟩:=ag h;try dsimp only at h
 refine ANew.mk (d_Booking l9) _ (by rw[←hl9];exact gT hg ht _ _ (Booking.mk x11_Thing (Trip.mk x10_1 x11_Trip_Day) x11_Weight)) rfl ?_;have hnl9:(dlen (d_Booking x1_1))=(d_Booking l9).length:=(by rw[←hl9,gl ht];exact(ah hg ht _));cbv;obtain rfl:=Option.some.inj h;exact ARetM.mk ⟨rfl,hnl9⟩ hX.symm hY.symm
def EC:J:=js [jq 3 (.box 0),jm 6 (ki 0)] [1,2,3] (.seq (js [jm 7 (ki 0)] [1,2,3,7] (.bl 0 (.seq (js [jm 8 7,jb 9 .leq .i 8 (ki 60)] [1,2,3,7,9] (.cond 9 .skip (.exit 0))) (.seq (.block 1 (js [jl 12 3 3,jm 13 1,jm 14 7,jc 15 153 [12,13,14],jm 16 15,ju 17 16 (.ld true 3 3),ju 18 16 (.mv 1),ju 19 16 (.mv 7),ju 20 16 (.bld [.r (.v (.int .i64 0)),.r (.v (.int .i64 0))] [(0,1,18),(1,1,19)]),ju 21 16 (.call 120 true [17,20]),ju 22 16 (.mv 2),ju 23 16 (.bin .geq .i 21 22),jq 24 (.pick 16 23 kf)] [1,2,3,7,24] (.cond 24 (js [jm 25 7,jm 6 25] [6] .ret) .skip))) (.reg none [jm 10 7,jb 11 .add .i 10 (ki 1),jm 7 11] [1,2,3,7]))))) (js [jq 6 (.mv (.k (V.i (-1))))] [6] .ret))
def EE:List RV:=[.t 6]
def db (g:G) (t:TE) (a0:Network) (a1:Int) (a2:Int):Nat→Int→Option (LR Int Unit)
 |0,v1=>
  some (LR.out ())
 |n1+1,v1=>
  cl (fP g t a0 a1 v1) fun x1=>
  br x1
  (
   cl (eh g t a0 (Trip.mk a1 v1)) fun x2=>
   br (g.le a2 x2)
   (
    some (LR.ret v1))
   (
    db g t a0 a1 a2 n1 (g.wrap .i64 (g.add v1 1))))
  (
   db g t a0 a1 a2 n1 (g.wrap .i64 (g.add v1 1)))
def kr (g:G) (t:TE) (a0:Network) (a1:Int) (a2:Int):Option Int:=
 cl (db g t a0 a1 a2 (cX 0 60) 0) fun o1=>lr o1 fun y1=>
 some (-1)
theorem vW {g:G} {t:TE} {a0:Network} {a1:Int} {a2:Int} {r:Int} (hg:g=G.real) (ht:t=TE.real) (h:kr g t a0 a1 a2=some r):Fn Tryz.prog 116 [.g (Network.rs t a0),.c (.v (.int .i64 a1)),.c (.v (.int .i64 a2))] (.c (.r (.v (.int .i64 r)))):=by
 obtain⟨X,hX⟩:=aJ (.c (.r (.v (.int .i64 r))):X);rw[←hX];refine aE (rvs:=EE) (j:=EC) Tryz.func116 rfl (by kernel_rfl) (nb rfl) (by kernel_rfl) ac ?_;intro g2 F hg2 hF;obtain rfl:g2=g:=hg2.unique.trans hg.symm;clear hg2;obtain⟨wrap,_,le,_,_,_,_,_,_,_,_,_,_,add⟩:=g2;obtain⟨_,_,_,_,r_Leg,_,r_I64⟩:=t
 obtain⟨a0_Legs,a0_Off,a0_Change⟩:=a0;unfold kr at h;try dsimp only at h
 cbv;obtain⟨o1,ho1,h⟩:=ae h;try dsimp only at h
 try rw[hg] at ho1
 try rw[ht] at ho1
 refine ABL.mk {p:Nat×Int//p.1=cX p.2 60∧0≤p.2∧db G.real TE.real (Network.mk a0_Legs a0_Off a0_Change) a1 a2 p.1 p.2=some o1} (fun⟨⟨n1,v1⟩,_⟩=>({sl:=[(1,.c (.r (.v (.int .i64 a1)))),(2,.c (.r (.v (.int .i64 a2)))),(3,.c (.p 0 3 0 0)),(7,.c (.r (.v (.int .i64 v1))))],tab:=[(0,some (.foc 3 [] [.r (.s 6 (r_Leg a0_Legs)),.r (.s 1 (r_I64 a0_Off)),.r (.v (.int .i64 a0_Change))] []))]}:St)) 1 (fun p=>p.1.1) ⟨(cX 0 60,0),rfl,Int.le_refl _,ho1⟩ (Unit) (fun _=>({sl:=[],tab:=[]}:St)) 0 (fun y=>o1=LR.out y) ?_ ?_ ?_
 ·refine Wk.of [(0,some 0)] rfl rfl ?_ ?_
  ·cbv;all_goals exact⟨⟨_,rfl,rfl⟩,⟨_,rfl,rfl⟩,⟨_,rfl,rfl⟩,⟨_,rfl,rfl⟩,trivial⟩
  cbv;all_goals exact⟨⟨_,rfl,_,rfl,rfl,rfl,rfl,trivial⟩,trivial⟩
 ·rintro⟨⟨n1,v1⟩,hn1,hi1,h_1⟩ hq1;try dsimp only at hn1 hi1 h_1
  clear hq1;cbv;rcases n1 with _|n1
  ·have hb1:le v1 60=false:=jA hg hn1;rw[db] at h_1;try rw[←hg] at h_1
   try rw[←ht] at h_1
   try dsimp only at h_1
   rw[hb1];cbv;refine⟨(),Wk.of [] rfl rfl ?_ ?_,(Option.some.inj h_1).symm⟩
   ·cbv;all_goals exact trivial
   cbv;all_goals exact trivial
  have hb1:le v1 60=true:=kz hg hn1;have hl1:=qr hn1;have hs1:=nr hg hn1 hi1 (by decide) (by decide);rw[db] at h_1;try rw[←hg] at h_1
  try rw[←ht] at h_1
  try dsimp only at h_1
  rw[hb1];cbv;obtain⟨x1,hx1,h_1⟩:=ae h_1;try dsimp only at h_1
  refine ACall.mk _ _ rfl (hF _ _ _ (lZ hg ht hx1)) (.inl rfl) (nb rfl) ?_;cbv
  cases hb2:x1
  ·rw[aa hb2] at h_1;cbv;iterate 7 try(rw[hb2];cbv)
   try rw[hg] at h_1
   try rw[ht] at h_1
   refine⟨⟨(n1,(wrap .i64 (add v1 1))),hs1.1,hs1.2,h_1⟩,Wk.of [(0,some 0)] rfl rfl ?_ ?_,Nat.lt_succ_self _⟩
   ·cbv;all_goals exact⟨⟨_,rfl,rfl⟩,⟨_,rfl,rfl⟩,⟨_,rfl,rfl⟩,⟨_,rfl,rfl⟩,trivial⟩
   cbv;all_goals exact⟨⟨_,rfl,_,rfl,rfl,rfl,rfl,trivial⟩,trivial⟩
  rw[ab hb2] at h_1;cbv;iterate 4 try(rw[hb2];cbv)
  obtain⟨x2,hx2,h_1⟩:=ae h_1;try dsimp only at h_1
  refine ACall.mk _ _ rfl (hF _ _ _ (jY hg ht hx2)) (.inl rfl) (nb rfl) ?_;cbv;iterate 3 try(rw[hb2];cbv)
  cases hb3:(le a2 x2)
  rotate_left
  ·rw[ab hb3] at h_1;cbv;obtain rfl:=Option.some.inj h_1;try dsimp only[lr,lrL,lrp,aH] at h
   obtain rfl:=Option.some.inj h;exact ARet.mk trivial hX.symm
  rw[aa hb3] at h_1;cbv;try rw[hg] at h_1
  try rw[ht] at h_1
  refine⟨⟨(n1,(wrap .i64 (add v1 1))),hs1.1,hs1.2,h_1⟩,Wk.of [(0,some 0)] rfl rfl ?_ ?_,Nat.lt_succ_self _⟩
  ·cbv;all_goals exact⟨⟨_,rfl,rfl⟩,⟨_,rfl,rfl⟩,⟨_,rfl,rfl⟩,⟨_,rfl,rfl⟩,trivial⟩
  cbv;all_goals exact⟨⟨_,rfl,_,rfl,rfl,rfl,rfl,trivial⟩,trivial⟩
 rintro _ hy1;replace hy1:=hy1.symm;subst hy1;try dsimp only[lr,lrL,lrp,aH] at h
 cbv;obtain rfl:=Option.some.inj h;exact ARet.mk trivial hX.symm
def El:J:=js [jq 3 (.box 1),jq 4 (.alloc [.r (.v (.int .i64 0)),.r (.v (.int .i64 0))])] [0,3,4] (js [jm 7 0,jf 8 0 3,jk 9 8,jq 10 (.len false 9),jq 11 (.callm 90 true 7 [10]),jm 12 0,jq 13 (.callm 90 true 12 [(ki 10)]),jq 14 (.bld [.r (.v (.int .i64 0)),.r (.v (.int .i64 0))] [(0,1,11),(1,1,13)]),jq 5 (.alloc [.r (.v (.int .i64 0)),.r (.v (.int .i64 0))]),jp (.st 2 5 14)] [0,3,4,5] (js [jl 15 3 3,jf 16 0 5,jk 17 16,jf 18 1 5,jk 19 18,jb 20 .mul .i 19 (ki 1440),jc 21 116 [15,17,20],jm 6 21] [0,4,5,6] (.seq (js [jm 22 6,jb 23 .geq .i 22 (ki 0),jm 24 23,ju 25 24 (.mv 0),ju 26 24 (.callm 67 true 25 [(ki 4)]),ju 27 24 (.not 26),jq 28 (.pick 24 27 kf)] [4,5,6,28] (.cond 28 (.reg none [jm 29 6,jf 30 1 5,jp (.st 1 30 29)] [4,5]) .skip)) (js [jl 31 2 5,jp (.st 2 4 31)] [4] .ret))))
def FO:List RV:=[.c 4 true 2]
def kF (g:G) (t:TE) (a0:Cur) (a1:Network):Option (Trip×Cur):=
 cl (aL g t a0 (g.llen (t.r_Leg a1.Legs))) fun x1=>
 cl (aL g t (Cur.mk x1.2.b x1.2.i x1.2.h) 10) fun x2=>
 cl (kr g t a1 x1.1 (g.wrap .i64 (g.mul x2.1 1440))) fun x3=>
 br (g.le 0 x3)
 (
  cl (dG g t (Cur.mk x2.2.b x2.2.i x2.2.h) 4) fun x4=>
  br x4.1
  (
   some (((Trip.mk x1.1 x2.1),(Cur.mk x4.2.b x4.2.i x4.2.h))))
  (
   some (((Trip.mk x1.1 x3),(Cur.mk x4.2.b x4.2.i x4.2.h)))))
 (
  some (((Trip.mk x1.1 x2.1),(Cur.mk x2.2.b x2.2.i x2.2.h))))
theorem vU {g:G} {t:TE} {a0:Cur} {a1:Network} {r:Trip×Cur} (hg:g=G.real) (ht:t=TE.real) (h:kF g t a0 a1=some r):FnM Tryz.prog 123 (.p (Cur.ds t a0)) [.g (Network.rs t a1)] (.g (Trip.ds t r.1)) (.p (Cur.ds t r.2)):=by
 obtain⟨X,hX⟩:=aJ (.g (Trip.ds t r.1):X);obtain⟨Y,hY⟩:=aJ (.p (Cur.ds t r.2):AM);rw[←hX,←hY];refine fm (rvs:=FO) (j:=El) Tryz.func123 rfl (by kernel_rfl) (nb rfl) (by kernel_rfl) ac ?_;intro g2 F hg2 hF;obtain rfl:g2=g:=hg2.unique.trans hg.symm;clear hg2;obtain⟨_,_,le⟩:=g2;obtain⟨_⟩:=t
 obtain⟨a0_b,a0_i,a0_h⟩:=a0;obtain⟨a1_Legs,a1_Off,a1_Change⟩:=a1;unfold kF at h;try dsimp only at h
 cbv;obtain⟨x1,hx1,h⟩:=ae h;obtain⟨x1_1,⟨x1_2_b,x1_2_i,x1_2_h⟩⟩:=x1;try dsimp only at h
 refine ACallM.mk _ _ _ _ rfl rfl (hF _ _ _ (aC hg ht hx1)) rfl (nb rfl) (nb rfl) ?_;cbv;obtain⟨x2,hx2,h⟩:=ae h;obtain⟨x2_1,⟨x2_2_b,x2_2_i,x2_2_h⟩⟩:=x2;try dsimp only at h
 refine ACallM.mk _ _ _ _ rfl rfl (hF _ _ _ (aC hg ht hx2)) rfl (nb rfl) (nb rfl) ?_;cbv;obtain⟨x3,hx3,h⟩:=ae h;try dsimp only at h
 refine ACall.mk _ _ rfl (hF _ _ _ (vW hg ht hx3)) (.inl rfl) (nb rfl) ?_;cbv
 cases hb1:(le 0 x3)
 ·rw[aa hb1] at h;cbv;iterate 3 try(rw[hb1];cbv)
  obtain rfl:=Option.some.inj h;exact ARetM.mk trivial hX.symm hY.symm
 rw[ab hb1] at h;cbv;try(rw[hb1];cbv)
 obtain⟨x4,hx4,h⟩:=ae h;obtain⟨x4_1,⟨x4_2_b,x4_2_i,x4_2_h⟩⟩:=x4;try dsimp only at h
 refine ACallM.mk _ _ _ _ rfl rfl (hF _ _ _ (dV hg ht hx4)) rfl (nb rfl) (nb rfl) ?_;cbv;iterate 2 try(rw[hb1];cbv)
 have hb2:x4_1=true∨x4_1=false:=by cases x4_1<;>simp
 rcases hb2 with hb2|hb2
 ·rw[ab hb2] at h;have hK_:=h;subst hb2;have h:=hK_;clear hK_;cbv;obtain rfl:=Option.some.inj h;exact ARetM.mk trivial hX.symm hY.symm
 rw[aa hb2] at h;have hK_:=h;subst hb2;have h:=hK_;clear hK_;cbv;obtain rfl:=Option.some.inj h;exact ARetM.mk trivial hX.symm hY.symm
def ir69:J:=js [jq 3 (.box 1),jq 4 (.mv (.k (.c (.n 2))))] [0,3] (js [jq 7 (.bsl 2 []),jm 5 7] [0,3,5] (.seq (js [jm 8 0,jq 9 (.callm 90 true 8 [(ki 4)]),jm 6 9] [0,3,5,6] (.bl 0 (.seq (js [jm 10 6,jb 11 .gtr .i 10 (ki 0)] [0,3,5,6,11] (.cond 11 .skip (.exit 0))) (.seq (.block 1 (.reg none [jm 14 5,jm 15 0,jl 16 3 3,jq 17 (.callm 123 true 15 [16]),jq 18 (.bsl 2 [17]),jq 19 (.app 2 16 true 14 18),jm 5 19] [0,3,5,6])) (.reg none [jm 12 6,jb 13 .sub .i 12 (ki 1),jm 6 13] [0,3,5,6]))))) (js [jm 20 5,jm 4 20] [4] .ret)))
def rv69:List RV:=[.t 4]
def dN (g:G) (t:TE) (a1:Network):Nat→List Int→Int→Int→List Trip→Int→Option ((List Int)×Int×Int×List Trip)
 |0,_,_,_,_,_=>none
 |n1+1,v1,v2,v3,w1,v4=>
  br (g.lt 0 v4)
  (
   cl (kF g t (Cur.mk v1 v2 v3) a1) fun x2=>
   lP ([(Trip.mk x2.1.Leg x2.1.Day)]) fun(l2:List Trip)=>
   gd (((w1.length+l2.length)*16≤70368744177664))<|
   lP (w1++l2) fun(l3:List Trip)=>
   dN g t a1 n1 x2.2.b x2.2.i x2.2.h l3 (g.wrap .i64 (g.sub v4 1)))
  (
   some (v1,v2,v3,w1))
def iZ (g:G) (t:TE) (a0:Cur) (a1:Network):Option ((List Trip)×Cur):=
 lP ([]) fun(l1:List Trip)=>
 cl (aL g t a0 4) fun x1=>
 cl (dN g t a1 1000000000 x1.2.b x1.2.i x1.2.h l1 x1.1) fun y1=>
 some ((y1.2.2.2,(Cur.mk y1.1 y1.2.1 y1.2.2.1)))
theorem ql {g:G} {t:TE} {a0:Cur} {a1:Network} {r:(List Trip)×Cur} (hg:g=G.real) (ht:t=TE.real) (h:iZ g t a0 a1=some r):FnM Tryz.prog 69 (.p (Cur.ds t a0)) [.g (Network.rs t a1)] (.c (.o 2 (t.d_Trip r.1))) (.p (Cur.ds t r.2)):=by
 obtain⟨X,hX⟩:=aJ (.c (.o 2 (t.d_Trip r.1)):X);obtain⟨Y,hY⟩:=aJ (.p (Cur.ds t r.2):AM);rw[←hX,←hY];refine fm (rvs:=rv69) (j:=ir69) Tryz.func69 rfl (by kernel_rfl) (nb rfl) (by kernel_rfl) ac ?_;intro g2 F hg2 hF;obtain rfl:g2=g:=hg2.unique.trans hg.symm;clear hg2;obtain⟨wrap,lt,_,_,_,_,_,_,_,_,_,_,_,_,sub,_,_,_,_,_,_,_,_,_,dlen⟩:=g2;obtain⟨r_U8,_,_,_,r_Leg,_,r_I64,_,_,d_Trip⟩:=t
 obtain⟨a0_b,a0_i,a0_h⟩:=a0;obtain⟨a1_Legs,a1_Off,a1_Change⟩:=a1;unfold iZ at h;try dsimp only at h
 cbv;obtain⟨l1,hl1,h⟩:=ag h;try dsimp only at h
 refine ANew.mk (d_Trip l1) (dlen (d_Trip l1)) (by rw[←hl1];exact ed hg ht []) (by rw[←hl1];exact dH hg ht []) ?_;cbv;obtain⟨x1,hx1,h⟩:=ae h;obtain⟨x1_1,⟨x1_2_b,x1_2_i,x1_2_h⟩⟩:=x1;try dsimp only at h
 refine ACallM.mk _ _ _ _ rfl rfl (hF _ _ _ (aC hg ht hx1)) rfl (nb rfl) (nb rfl) ?_;cbv;obtain⟨o1,ho1,h⟩:=ae h;try dsimp only at h
 try rw[hg] at ho1
 try rw[ht] at ho1
 refine ABL.mk {p:Nat×(List Int)×Int×Int×(List Trip)×Int//dN G.real TE.real (Network.mk a1_Legs a1_Off a1_Change) p.1 p.2.1 p.2.2.1 p.2.2.2.1 p.2.2.2.2.1 p.2.2.2.2.2=some o1} (fun⟨⟨n1,v1,v2,v3,w1,v4⟩,_⟩=>({sl:=[(0,.c (.p 3 3 0 0)),(3,.c (.p 0 3 0 0)),(5,.c (.f 1 2 0 (dlen (d_Trip w1)))),(6,.c (.r (.v (.int .i64 v4))))],tab:=[(0,some (.foc 3 [] [.r (.s 6 (r_Leg a1_Legs)),.r (.s 1 (r_I64 a1_Off)),.r (.v (.int .i64 a1_Change))] [])),(1,some (.arr 2 (d_Trip w1))),(3,some (.foc 3 [] [.r (.s 1 (r_U8 v1)),.r (.v (.int .i64 v2)),.r (.v (.int .i64 v3))] []))]}:St)) 4 (fun p=>p.1.1) ⟨(1000000000,x1_2_b,x1_2_i,x1_2_h,l1,x1_1),ho1⟩ ((List Int)×Int×Int×List Trip) (fun⟨y1_1,y1_2_1,y1_2_2_1,y1_2_2_2⟩=>({sl:=[(5,.c (.f 0 2 0 (dlen (d_Trip y1_2_2_2))))],tab:=[(0,some (.arr 2 (d_Trip y1_2_2_2))),(3,some (.foc 3 [] [.r (.s 1 (r_U8 y1_1)),.r (.v (.int .i64 y1_2_1)),.r (.v (.int .i64 y1_2_2_1))] []))]}:St)) 4 (fun y=>o1=y) ?_ ?_ ?_
 ·refine Wk.of [(0,some 4),(1,some 36),(3,some 3)] rfl rfl ?_ ?_
  ·cbv;all_goals exact⟨⟨_,rfl,rfl⟩,⟨_,rfl,rfl⟩,⟨_,rfl,rfl⟩,⟨_,rfl,rfl⟩,trivial⟩
  cbv;all_goals exact⟨⟨_,rfl,_,rfl,rfl,rfl,rfl,trivial⟩,⟨_,rfl,rfl⟩,⟨_,rfl,_,rfl,rfl,rfl,rfl,trivial⟩,trivial⟩
 ·rintro⟨⟨n1,v1,v2,v3,w1,v4⟩,h_1⟩ hq1;try dsimp only at h_1
  clear hq1;rcases n1 with _|n1
  ·rw[dN] at h_1;cases h_1
  rw[dN] at h_1;try rw[←hg] at h_1
  try rw[←ht] at h_1
  try dsimp only at h_1
  cbv
  cases hb1:(lt 0 v4)
  ·rw[aa hb1] at h_1;cbv;refine⟨(v1,v2,v3,w1),Wk.of [(0,some 1),(3,some 3)] rfl rfl ?_ ?_,(Option.some.inj h_1).symm⟩
   ·cbv;all_goals exact⟨⟨_,rfl,rfl⟩,trivial⟩
   cbv;all_goals exact⟨⟨_,rfl,rfl⟩,⟨_,rfl,_,rfl,rfl,rfl,rfl,trivial⟩,trivial⟩
  rw[ab hb1] at h_1;cbv;obtain⟨x2,hx2,h_1⟩:=ae h_1;obtain⟨⟨x2_1_Leg,x2_1_Day⟩,⟨x2_2_b,x2_2_i,x2_2_h⟩⟩:=x2;try dsimp only at h_1
  refine ACallM.mk _ _ _ _ rfl rfl (hF _ _ _ (vU hg ht hx2)) rfl (nb rfl) (nb rfl) ?_;cbv;obtain⟨l2,hl2,h_1⟩:=ag h_1;try dsimp only at h_1
  refine ANew.mk (d_Trip l2) (dlen (d_Trip l2)) (by rw[←hl2];exact ed hg ht [(Trip.mk x2_1_Leg x2_1_Day)]) (by rw[←hl2];exact dH hg ht [(Trip.mk x2_1_Leg x2_1_Day)]) ?_;cbv;obtain⟨hc1,h_1⟩:=ak h_1;refine AStep.mk ⟨⟨rfl,(aw hg ht _)⟩,(gr hg ht (aw hg ht _) rfl hc1)⟩ ?_;cbv;obtain⟨l3,hl3,h_1⟩:=ag h_1;try dsimp only at h_1
  refine ANew.mk (d_Trip l3) (dlen (d_Trip l3)) (by rw[←hl3];exact kw hg ht (aw hg ht _) rfl) (by rw[←hl3];exact jn hg ht (aw hg ht _) rfl) ?_;cbv;try rw[hg] at h_1
  try rw[ht] at h_1
  refine⟨⟨(n1,x2_2_b,x2_2_i,x2_2_h,l3,(wrap .i64 (sub v4 1))),h_1⟩,Wk.of [(0,some 0),(1,some 116),(3,some 3)] rfl rfl ?_ ?_,Nat.lt_succ_self _⟩
  ·cbv;all_goals exact⟨⟨_,rfl,rfl⟩,⟨_,rfl,rfl⟩,⟨_,rfl,rfl⟩,⟨_,rfl,rfl⟩,trivial⟩
  cbv;all_goals exact⟨⟨_,rfl,_,rfl,rfl,rfl,rfl,trivial⟩,⟨_,rfl,rfl⟩,⟨_,rfl,_,rfl,rfl,rfl,rfl,trivial⟩,trivial⟩
 rintro⟨y1_1,y1_2_1,y1_2_2_1,y1_2_2_2⟩ hy1;replace hy1:=hy1.symm;subst hy1;try dsimp only[lr,lrL,lrp,aH] at h
 cbv;obtain rfl:=Option.some.inj h;exact ARetM.mk ⟨rfl,(aw hg ht _)⟩ hX.symm hY.symm
def ER:J:=js [jm 2 (ki 0)] [0] (js [jm 3 0,jq 4 (.bslr 1 [(.k (V.i (-1))),(ki 0),(ki 1),(ki 2),(ki 255),(ki 1440),(ki 86400),(ki 86401),(ki 999999999),(ki 1000000000),(ki 1000000001),(.k (V.i (-1000000001))),(ki 9223372036854775807),(.k (V.i (-9223372036854775808)))]),jq 5 (.callm 72 true 3 [4]),jm 2 5] [2] .ret)
def Ep:List RV:=[.t 2]
def mS (g:G) (t:TE) (a0:Cur):Option (Int×Cur):=
 lP ([(-1),0,1,2,255,1440,86400,86401,999999999,1000000000,1000000001,(-1000000001),9223372036854775807,(-9223372036854775808)]) fun(l1:List Int)=>
 cl (fh g t a0 l1) fun x1=>
 some ((x1.1,(Cur.mk x1.2.b x1.2.i x1.2.h)))
theorem zm {g:G} {t:TE} {a0:Cur} {r:Int×Cur} (hg:g=G.real) (ht:t=TE.real) (h:mS g t a0=some r):FnM Tryz.prog 125 (.p (Cur.ds t a0)) [] (.c (.r (.v (.int .i64 r.1)))) (.p (Cur.ds t r.2)):=by
 obtain⟨X,hX⟩:=aJ (.c (.r (.v (.int .i64 r.1))):X);obtain⟨Y,hY⟩:=aJ (.p (Cur.ds t r.2):AM);rw[←hX,←hY];refine fm (rvs:=Ep) (j:=ER) Tryz.func125 rfl (by kernel_rfl) (nb rfl) (by kernel_rfl) ac ?_;intro g2 F hg2 hF;obtain rfl:g2=g:=hg2.unique.trans hg.symm;clear hg2;obtain⟨_⟩:=g2;obtain⟨_,_,_,_,_,_,r_I64⟩:=t
 obtain⟨a0_b,a0_i,a0_h⟩:=a0;unfold mS at h;try dsimp only at h
 cbv;obtain⟨l1,hl1,h⟩:=ag h;try dsimp only at h
 refine AVal.mk (r_I64 l1) (by rw[←hl1];exact gC hg ht [(-1),0,1,2,255,1440,86400,86401,999999999,1000000000,1000000001,(-1000000001),9223372036854775807,(-9223372036854775808)]) ?_;cbv;obtain⟨x1,hx1,h⟩:=ae h;obtain⟨x1_1,⟨x1_2_b,x1_2_i,x1_2_h⟩⟩:=x1;try dsimp only at h
 refine ACallM.mk _ _ _ _ rfl rfl (hF _ _ _ (fA hg ht hx1)) rfl (nb rfl) (nb rfl) ?_;cbv;obtain rfl:=Option.some.inj h;exact ARetM.mk trivial hX.symm hY.symm
def ir71:J:=js [jm 2 (ki 0)] [0] (.seq (js [jm 3 0,jq 4 (.callm 67 true 3 [(ki 9)])] [0,4] (.cond 4 (js [jm 5 0,jq 6 (.callm 125 true 5 []),jm 2 6] [2] .ret) .skip)) (js [jm 7 0,jq 8 (.callm 90 true 7 [(ki 200)]),jb 9 .mul .i (ki 60) 8,jm 2 9] [2] .ret))
def rv71:List RV:=[.t 2]
def nL (g:G) (t:TE) (a0:Cur):Option (Int×Cur):=
 cl (dG g t a0 9) fun x1=>
 br x1.1
 (
  cl (mS g t (Cur.mk x1.2.b x1.2.i x1.2.h)) fun x2=>
  some ((x2.1,(Cur.mk x2.2.b x2.2.i x2.2.h))))
 (
  cl (aL g t (Cur.mk x1.2.b x1.2.i x1.2.h) 200) fun x3=>
  some (((g.wrap .i64 (g.mul 60 x3.1)),(Cur.mk x3.2.b x3.2.i x3.2.h))))
theorem ut {g:G} {t:TE} {a0:Cur} {r:Int×Cur} (hg:g=G.real) (ht:t=TE.real) (h:nL g t a0=some r):FnM Tryz.prog 71 (.p (Cur.ds t a0)) [] (.c (.r (.v (.int .i64 r.1)))) (.p (Cur.ds t r.2)):=by
 obtain⟨X,hX⟩:=aJ (.c (.r (.v (.int .i64 r.1))):X);obtain⟨Y,hY⟩:=aJ (.p (Cur.ds t r.2):AM);rw[←hX,←hY];refine fm (rvs:=rv71) (j:=ir71) Tryz.func71 rfl (by kernel_rfl) (nb rfl) (by kernel_rfl) ac ?_;intro g2 F hg2 hF;obtain rfl:g2=g:=hg2.unique.trans hg.symm;clear hg2;obtain⟨_⟩:=g2;obtain⟨_⟩:=t
 obtain⟨a0_b,a0_i,a0_h⟩:=a0;unfold nL at h;try dsimp only at h
 cbv;obtain⟨x1,hx1,h⟩:=ae h;obtain⟨x1_1,⟨x1_2_b,x1_2_i,x1_2_h⟩⟩:=x1;try dsimp only at h
 refine ACallM.mk _ _ _ _ rfl rfl (hF _ _ _ (dV hg ht hx1)) rfl (nb rfl) (nb rfl) ?_;cbv;have hb1:x1_1=true∨x1_1=false:=by cases x1_1<;>simp
 rcases hb1 with hb1|hb1
 ·rw[ab hb1] at h;have hK_:=h;subst hb1;have h:=hK_;clear hK_;cbv;obtain⟨x2,hx2,h⟩:=ae h;obtain⟨x2_1,⟨x2_2_b,x2_2_i,x2_2_h⟩⟩:=x2;try dsimp only at h
  refine ACallM.mk _ _ _ _ rfl rfl (hF _ _ _ (zm hg ht hx2)) rfl (nb rfl) (nb rfl) ?_;cbv;obtain rfl:=Option.some.inj h;exact ARetM.mk trivial hX.symm hY.symm
 rw[aa hb1] at h;have hK_:=h;subst hb1;have h:=hK_;clear hK_;cbv;obtain⟨x3,hx3,h⟩:=ae h;obtain⟨x3_1,⟨x3_2_b,x3_2_i,x3_2_h⟩⟩:=x3;try dsimp only at h
 refine ACallM.mk _ _ _ _ rfl rfl (hF _ _ _ (aC hg ht hx3)) rfl (nb rfl) (nb rfl) ?_;cbv;obtain rfl:=Option.some.inj h;exact ARetM.mk trivial hX.symm hY.symm
def ir22 (s_k0:ByteArray):J:=js [jq 2 (.alloc [.n 6,.n 1,.r (.v (.int .i64 0))]),jq 3 (.mv (.k (.c (.n 4)))),jq 4 (.mv (.k (.c (.n 2)))),jq 5 (.mv (.k (.c (.r (.v (.string s_k0)))))),jq 6 (.mv (.k (.c (.r (.v (.string s_k0)))))),jm 7 (ki 0),jm 8 (ki 0)] [0,2] (js [jm 12 0,jc 13 64 [12],jm 9 13] [2,9] (js [jm 14 9,jq 15 (.callm 65 false 14 [(ki 7)]),jq 10 (.alloc [.n 6,.n 1,.r (.v (.int .i64 0))]),jp (.st 3 10 15)] [2,9,10] (js [jm 16 9,jl 17 3 10,jq 18 (.callm 66 false 16 [17,(ki 9)]),jm 11 18] [2,9,10,11] (.seq (js [jm 19 9,jq 20 (.callm 67 true 19 [(ki 8)])] [2,9,10,11,20] (.cond 20 (.reg none [jm 21 9,jl 22 3 10,jq 23 (.callm 68 false 21 [22]),jm 11 23] [2,9,10,11]) .skip)) (.seq (.reg (some [[],[],[],[],[2,3],[],[],[2,3,4,5,6],[],[],[2,3,4,5,6,7,8,9],[],[2,3,4,5,6,7,8,9,10,11],[],[],[2,3,4,5,6,7,8,9,10,11,12,13,14],[0,2,3,4,5,6,7,8,9,10,11,12,13,14,15],[0,1,2,3,4,5,6,7,8,9,10,11,12,13,14,15,16],[0,1,2,3,4,5,6,7,8,9,10,11,12,13,14,15,16,17],[0,1,2,3,4,5,6,7,8,9,10,11,12,13,14,15,16,17,18],[0,1,2,3,4,5,6,7,8,9,10,11,12,13,14,15,16,17,18,19],[0,1,2,3,4,5,6,7,8,9,10,11,12,13,14,15,16,17,18,19,20],[0,1,2,3,4,5,6,7,8,9,10,11,12,13,14,15,16,17,18,19,20,21]]) [jl 24 3 10,jm 25 11,jm 26 9,jl 27 3 10,jq 28 (.callm 69 false 26 [27]),jm 29 9,jl 30 3 10,jq 31 (.callm 70 true 29 [30]),jm 32 9,jl 33 3 10,jq 34 (.callm 70 true 32 [33]),jm 35 9,jq 36 (.callm 71 true 35 []),jm 37 9,jq 38 (.bslr 1 [(ki 1),(ki 1000),(ki 9000),(ki 30000),(ki 59000),(ki 0)]),jq 39 (.callm 72 true 37 [38]),jp (.st 3 2 24),jm 3 25,jm 4 28,jm 5 31,jm 6 34,jm 7 36,jm 8 39] [2,3,4,5,6,7,8]) .ret)))))
def rv22:List RV:=[.c 2 true 3,.t 3,.t 4,.t 5,.t 6,.t 7,.t 8]
def ew (g:G) (t:TE) (a0:List Int):Option (Network×(List Booking)×(List Trip)×ByteArray×ByteArray×Int×Int):=
 lP (pc g t a0) fun x1=>
 cl (gB g t x1 7) fun x2=>
 cl (i6 g t (Cur.mk x2.2.b x2.2.i x2.2.h) (Network.mk x2.1.Legs x2.1.Off x2.1.Change) 9) fun x3=>
 cl (dG g t (Cur.mk x3.2.b x3.2.i x3.2.h) 8) fun x4=>
 br x4.1
 (
  cl (no g t (Cur.mk x4.2.b x4.2.i x4.2.h) (Network.mk x2.1.Legs x2.1.Off x2.1.Change)) fun x5=>
  cl (iZ g t (Cur.mk x5.2.b x5.2.i x5.2.h) (Network.mk x2.1.Legs x2.1.Off x2.1.Change)) fun x6=>
  cl (iQ g t (Cur.mk x6.2.b x6.2.i x6.2.h) (Network.mk x2.1.Legs x2.1.Off x2.1.Change)) fun x7=>
  cl (iQ g t (Cur.mk x7.2.b x7.2.i x7.2.h) (Network.mk x2.1.Legs x2.1.Off x2.1.Change)) fun x8=>
  cl (nL g t (Cur.mk x8.2.b x8.2.i x8.2.h)) fun x9=>
  lP ([1,1000,9000,30000,59000,0]) fun(l1:List Int)=>
  cl (fh g t (Cur.mk x9.2.b x9.2.i x9.2.h) l1) fun x10=>
  some (((Network.mk x2.1.Legs x2.1.Off x2.1.Change),x5.1,x6.1,x7.1,x8.1,x9.1,x10.1)))
 (
  cl (iZ g t (Cur.mk x4.2.b x4.2.i x4.2.h) (Network.mk x2.1.Legs x2.1.Off x2.1.Change)) fun x11=>
  cl (iQ g t (Cur.mk x11.2.b x11.2.i x11.2.h) (Network.mk x2.1.Legs x2.1.Off x2.1.Change)) fun x12=>
  cl (iQ g t (Cur.mk x12.2.b x12.2.i x12.2.h) (Network.mk x2.1.Legs x2.1.Off x2.1.Change)) fun x13=>
  cl (nL g t (Cur.mk x13.2.b x13.2.i x13.2.h)) fun x14=>
  lP ([1,1000,9000,30000,59000,0]) fun(l2:List Int)=>
  cl (fh g t (Cur.mk x14.2.b x14.2.i x14.2.h) l2) fun x15=>
  some (((Network.mk x2.1.Legs x2.1.Off x2.1.Change),x3.1,x11.1,x12.1,x13.1,x14.1,x15.1)))
theorem nz {g:G} {t:TE} {a0:List Int} {r:Network×(List Booking)×(List Trip)×ByteArray×ByteArray×Int×Int} (hg:g=G.real) (ht:t=TE.real) (h:ew g t a0=some r):Fn Tryz.prog 22 [.c (.s 1 (t.r_U8 a0))] (.u [.g ((Network.rs t r.1).map .r),.c (.r (.s 4 (t.r_Booking r.2.1))),.c (.r (.s 2 (t.r_Trip r.2.2.1))),.c (.r (.v (.string r.2.2.2.1))),.c (.r (.v (.string r.2.2.2.2.1))),.c (.r (.v (.int .i64 r.2.2.2.2.2.1))),.c (.r (.v (.int .i64 r.2.2.2.2.2.2)))]):=by
 obtain⟨X,hX⟩:=aJ (.u [.g ((Network.rs t r.1).map .r),.c (.r (.s 4 (t.r_Booking r.2.1))),.c (.r (.s 2 (t.r_Trip r.2.2.1))),.c (.r (.v (.string r.2.2.2.1))),.c (.r (.v (.string r.2.2.2.2.1))),.c (.r (.v (.int .i64 r.2.2.2.2.2.1))),.c (.r (.v (.int .i64 r.2.2.2.2.2.2)))]:X);rw[←hX];refine aE (rvs:=rv22) (j:=(ir22 str_k0)) Tryz.func22 rfl (by kernel_rfl) (nb rfl) (by kernel_rfl) ac ?_;intro g2 F hg2 hF;obtain rfl:g2=g:=hg2.unique.trans hg.symm;clear hg2;obtain⟨_,_,_,_,_,_,_,_,_,_,_,_,_,_,_,_,_,_,_,_,_,_,_,_,_,_,_,_,_,rda⟩:=g2
 obtain⟨_,_,_,_,r_Leg,d_Leg,r_I64,d_I64,r_Trip,d_Trip,r_Booking,d_Booking⟩:=t;have hrda_Leg:∀l,rda (d_Leg l)=r_Leg l:=xY hg ht;have hrda_I64:∀l,rda (d_I64 l)=r_I64 l:=sJ hg ht;have hrda_Trip:∀l,rda (d_Trip l)=r_Trip l:=vg hg ht;have hrda_Booking:∀l,rda (d_Booking l)=r_Booking l:=og hg ht;unfold ew at h;try dsimp only at h
 obtain⟨s_k0,hs_k0⟩:∃s,str_k0=s:=⟨_,rfl⟩;try rw[hs_k0] at h
 rw[hs_k0];cbv;obtain⟨x1,hx1,h⟩:=ag h;obtain⟨x1_b,x1_i,x1_h⟩:=x1;try dsimp only at h
 refine ACall.mk _ _ rfl (hF _ _ _ (zG hg ht hx1)) (.inl rfl) (nb rfl) ?_;cbv;obtain⟨x2,hx2,h⟩:=ae h;obtain⟨⟨x2_1_Legs,x2_1_Off,x2_1_Change⟩,⟨x2_2_b,x2_2_i,x2_2_h⟩⟩:=x2;try dsimp only at h
 refine ACallMR.mk _ _ _ _ (.g [.r (.s 6 (r_Leg x2_1_Legs)),.r (.s 1 (r_I64 x2_1_Off)),.r (.v (.int .i64 x2_1_Change))]) rfl rfl (hF _ _ _ (v8 hg ht hx2)) rfl (nb rfl) (nb rfl) (by cbv;(try simp only[hrda_I64,hrda_Leg])) ?_;cbv;obtain⟨x3,hx3,h⟩:=ae h;obtain⟨x3_1,⟨x3_2_b,x3_2_i,x3_2_h⟩⟩:=x3;try dsimp only at h
 refine ACallMR.mk _ _ _ _ (.c (.r (.s 4 (r_Booking x3_1)))) rfl rfl (hF _ _ _ (qe hg ht hx3)) rfl (nb rfl) (nb rfl) (by cbv;(try simp only[hrda_Booking])) ?_;cbv;obtain⟨x4,hx4,h⟩:=ae h;obtain⟨x4_1,⟨x4_2_b,x4_2_i,x4_2_h⟩⟩:=x4;try dsimp only at h
 refine ACallM.mk _ _ _ _ rfl rfl (hF _ _ _ (dV hg ht hx4)) rfl (nb rfl) (nb rfl) ?_;cbv;have hb1:x4_1=true∨x4_1=false:=by cases x4_1<;>simp
 rcases hb1 with hb1|hb1
 ·rw[ab hb1] at h;have hK_:=h;subst hb1;have h:=hK_;clear hK_;cbv;obtain⟨x5,hx5,h⟩:=ae h;obtain⟨x5_1,⟨x5_2_b,x5_2_i,x5_2_h⟩⟩:=x5;try dsimp only at h
  refine ACallMR.mk _ _ _ _ (.c (.r (.s 4 (r_Booking x5_1)))) rfl rfl (hF _ _ _ (zg hg ht hx5)) rfl (nb rfl) (nb rfl) (by cbv;(try simp only[hrda_Booking])) ?_;cbv;obtain⟨x6,hx6,h⟩:=ae h;obtain⟨x6_1,⟨x6_2_b,x6_2_i,x6_2_h⟩⟩:=x6;try dsimp only at h
  refine ACallMR.mk _ _ _ _ (.c (.r (.s 2 (r_Trip x6_1)))) rfl rfl (hF _ _ _ (ql hg ht hx6)) rfl (nb rfl) (nb rfl) (by cbv;(try simp only[hrda_Trip])) ?_;cbv;obtain⟨x7,hx7,h⟩:=ae h;obtain⟨x7_1,⟨x7_2_b,x7_2_i,x7_2_h⟩⟩:=x7;try dsimp only at h
  refine ACallM.mk _ _ _ _ rfl rfl (hF _ _ _ (i4 hg ht hx7)) rfl (nb rfl) (nb rfl) ?_;cbv;obtain⟨x8,hx8,h⟩:=ae h;obtain⟨x8_1,⟨x8_2_b,x8_2_i,x8_2_h⟩⟩:=x8;try dsimp only at h
  refine ACallM.mk _ _ _ _ rfl rfl (hF _ _ _ (i4 hg ht hx8)) rfl (nb rfl) (nb rfl) ?_;cbv;obtain⟨x9,hx9,h⟩:=ae h;obtain⟨x9_1,⟨x9_2_b,x9_2_i,x9_2_h⟩⟩:=x9;try dsimp only at h
  refine ACallM.mk _ _ _ _ rfl rfl (hF _ _ _ (ut hg ht hx9)) rfl (nb rfl) (nb rfl) ?_;cbv;obtain⟨l1,hl1,h⟩:=ag h;try dsimp only at h
  refine AVal.mk (r_I64 l1) (by rw[←hl1];exact gC hg ht [1,1000,9000,30000,59000,0]) ?_;cbv;obtain⟨x10,hx10,h⟩:=ae h;obtain⟨x10_1,⟨x10_2_b,x10_2_i,x10_2_h⟩⟩:=x10;try dsimp only at h
  refine ACallM.mk _ _ _ _ rfl rfl (hF _ _ _ (fA hg ht hx10)) rfl (nb rfl) (nb rfl) ?_;cbv;obtain rfl:=Option.some.inj h;exact ARet.mk trivial hX.symm
 rw[aa hb1] at h;have hK_:=h;subst hb1;have h:=hK_;clear hK_;cbv;obtain⟨x11,hx11,h⟩:=ae h;obtain⟨x11_1,⟨x11_2_b,x11_2_i,x11_2_h⟩⟩:=x11;try dsimp only at h
 refine ACallMR.mk _ _ _ _ (.c (.r (.s 2 (r_Trip x11_1)))) rfl rfl (hF _ _ _ (ql hg ht hx11)) rfl (nb rfl) (nb rfl) (by cbv;(try simp only[hrda_Trip])) ?_;cbv;obtain⟨x12,hx12,h⟩:=ae h;obtain⟨x12_1,⟨x12_2_b,x12_2_i,x12_2_h⟩⟩:=x12;try dsimp only at h
 refine ACallM.mk _ _ _ _ rfl rfl (hF _ _ _ (i4 hg ht hx12)) rfl (nb rfl) (nb rfl) ?_;cbv;obtain⟨x13,hx13,h⟩:=ae h;obtain⟨x13_1,⟨x13_2_b,x13_2_i,x13_2_h⟩⟩:=x13;try dsimp only at h
 refine ACallM.mk _ _ _ _ rfl rfl (hF _ _ _ (i4 hg ht hx13)) rfl (nb rfl) (nb rfl) ?_;cbv;obtain⟨x14,hx14,h⟩:=ae h;obtain⟨x14_1,⟨x14_2_b,x14_2_i,x14_2_h⟩⟩:=x14;try dsimp only at h
 refine ACallM.mk _ _ _ _ rfl rfl (hF _ _ _ (ut hg ht hx14)) rfl (nb rfl) (nb rfl) ?_;cbv;obtain⟨l2,hl2,h⟩:=ag h;try dsimp only at h
 refine AVal.mk (r_I64 l2) (by rw[←hl2];exact gC hg ht [1,1000,9000,30000,59000,0]) ?_;cbv;obtain⟨x15,hx15,h⟩:=ae h;obtain⟨x15_1,⟨x15_2_b,x15_2_i,x15_2_h⟩⟩:=x15;try dsimp only at h
 refine ACallM.mk _ _ _ _ rfl rfl (hF _ _ _ (fA hg ht hx15)) rfl (nb rfl) (nb rfl) ?_;cbv;obtain rfl:=Option.some.inj h;exact ARet.mk trivial hX.symm
def ir87:J:=js [jm 6 kf] [0,1,2] (js [jm 7 1,jm 8 0,jb 9 .leq .i 7 8,jm 10 9,ju 11 10 (.mv 0),ju 12 10 (.mv 2),ju 13 10 (.bin .leq .i 11 12),jq 14 (.pick 10 13 kf),jm 6 14] [6] .ret)
def rv87:List RV:=[.t 6]
def cT (g:G) (t:TE) (a0:Int) (a1:Int) (a2:Int):Bool:=
 br (g.le a1 a0)
 (
  (g.le a0 a2))
 (
  false)
theorem cQ {g:G} {t:TE} {a0:Int} {a1:Int} {a2:Int} {r:Bool} (hg:g=G.real) (ht:t=TE.real) (h:cT g t a0 a1 a2=r):Fn Tryz.prog 87 [.c (.v (.int .i64 a0)),.c (.v (.int .i64 a1)),.c (.v (.int .i64 a2))] (.c (.r (.v (.bool r)))):=by
 obtain⟨X,hX⟩:=aJ (.c (.r (.v (.bool r))):X);rw[←hX];refine aE (rvs:=rv87) (j:=ir87) Tryz.func87 rfl (by kernel_rfl) (nb rfl) (by kernel_rfl) ac ?_;intro g2 F hg2 hF;obtain rfl:g2=g:=hg2.unique.trans hg.symm;clear hg2;obtain⟨_,_,le⟩:=g2;obtain⟨_⟩:=t
 unfold cT at h;try dsimp only at h
 cbv
 cases hb1:(le a1 a0)
 rotate_left
 ·rw[ab hb1] at h;cbv;iterate 3 try(rw[hb1];cbv)
  subst h;exact ARet.mk trivial hX.symm
 rw[aa hb1] at h;cbv;iterate 3 try(rw[hb1];cbv)
 subst h;exact ARet.mk trivial hX.symm
def FA:J:=js [jm 2 kf] [0] (.seq (js [jm 3 (ki 0)] [0,3] (.bl 0 (.seq (js [jm 4 3,jm 5 0,jq 6 (.len true 5),jb 7 .lss .i 4 6] [0,3,7] (.cond 7 .skip (.exit 0))) (.seq (.block 1 (js [jm 10 0,jm 11 3,jq 12 (.idx 10 11),jq 13 (.bin .lss .i 12 (.k (.c (.r (.v (.int .u8 65)))))),jm 14 13,jv 15 14 (.mv 0),jv 16 14 (.mv 3),jv 17 14 (.idx 15 16),jv 18 14 (.bin .gtr .i 17 (.k (.c (.r (.v (.int .u8 90)))))),jq 19 (.pick 14 kt 18)] [0,3,19] (.cond 19 (js [jm 2 kf] [2] .ret) .skip))) (.reg none [jm 8 3,jb 9 .add .i 8 (ki 1),jm 3 9] [0,3]))))) (js [jm 20 0,jq 21 (.len true 20),jb 22 .eql .i 21 (ki 3),jm 2 22] [2] .ret))
def EK:List RV:=[.t 2]
def c5 (g:G) (t:TE) (a0:ByteArray):Nat→Int→LR Bool Unit
 |0,v1=>
  (LR.out ())
 |n1+1,v1=>
  br (g.lt (g.byte a0 v1) 65)
  (
   (LR.ret false))
  (
   br (g.lt 90 (g.byte a0 v1))
   (
    (LR.ret false))
   (
    c5 g t a0 n1 (g.wrap .i64 (g.add v1 1))))
def g8 (g:G) (t:TE) (a0:ByteArray):Option Bool:=
 gd (((g.int (g.slen a0))≤9223372036854775807))<|
 lP (c5 g t a0 (aW 0 (g.int (g.slen a0))) 0) fun o1=>lr o1 fun y1=>
 some (g.eq (g.int (g.slen a0)) 3)
theorem oI {g:G} {t:TE} {a0:ByteArray} {r:Bool} (hg:g=G.real) (ht:t=TE.real) (h:g8 g t a0=some r):Fn Tryz.prog 148 [.c (.v (.string a0))] (.c (.r (.v (.bool r)))):=by
 obtain⟨X,hX⟩:=aJ (.c (.r (.v (.bool r))):X);rw[←hX];refine aE (rvs:=EK) (j:=FA) Tryz.func148 rfl (by kernel_rfl) (nb rfl) (by kernel_rfl) ac ?_;intro g2 F hg2 hF;obtain rfl:g2=g:=hg2.unique.trans hg.symm;clear hg2;obtain⟨wrap,lt,_,_,_,_,_,_,_,_,_,_,int,add,_,_,_,_,_,_,byte,_,_,_,_,_,_,_,_,_,_,_,_,_,_,slen⟩:=g2;obtain⟨_⟩:=t
 unfold g8 at h;try dsimp only at h
 cbv;obtain⟨hB1,h⟩:=ak h;obtain⟨o1,ho1,h⟩:=ag h;try dsimp only at h
 try rw[hg] at ho1
 try rw[ht] at ho1
 refine ABL.mk {p:Nat×Int//p.1=aW p.2 (int (slen a0))∧0≤p.2∧c5 G.real TE.real a0 p.1 p.2=o1} (fun⟨⟨n1,v1⟩,_⟩=>({sl:=[(0,.c (.r (.v (.string a0)))),(3,.c (.r (.v (.int .i64 v1))))],tab:=[]}:St)) 0 (fun p=>p.1.1) ⟨(aW 0 (int (slen a0)),0),rfl,Int.le_refl _,ho1⟩ (Unit) (fun _=>({sl:=[(0,.c (.r (.v (.string a0))))],tab:=[]}:St)) 0 (fun y=>o1=LR.out y) ?_ ?_ ?_
 ·refine Wk.of [] rfl rfl ?_ ?_
  ·cbv;all_goals exact⟨⟨_,rfl,rfl⟩,⟨_,rfl,rfl⟩,trivial⟩
  cbv;all_goals exact trivial
 ·rintro⟨⟨n1,v1⟩,hn1,hi1,h_1⟩ hq1;try dsimp only at hn1 hi1 h_1
  clear hq1;cbv;rcases n1 with _|n1
  ·have hb1:lt v1 (int (slen a0))=false:=eG hg hn1;rw[c5] at h_1;try rw[←hg] at h_1
   try rw[←ht] at h_1
   try dsimp only at h_1
   rw[hb1];cbv;refine⟨(),Wk.of [] rfl rfl ?_ ?_,h_1.symm⟩
   ·cbv;all_goals exact⟨⟨_,rfl,rfl⟩,trivial⟩
   cbv;all_goals exact trivial
  have hb1:lt v1 (int (slen a0))=true:=fM hg hn1;have hl1:=jI hn1;have hs1:=gU hg hn1 hi1 hB1 (by decide);rw[c5] at h_1;try rw[←hg] at h_1
  try rw[←ht] at h_1
  try dsimp only at h_1
  rw[hb1];cbv;refine AStep.mk (xQ hg hi1 hl1) ?_;cbv
  cases hb2:(lt (byte a0 v1) 65)
  rotate_left
  ·rw[ab hb2] at h_1;cbv;iterate 4 try(rw[hb2];cbv)
   subst h_1;try dsimp only[lr,lrL,lrp,aH] at h
   obtain rfl:=Option.some.inj h;exact ARet.mk trivial hX.symm
  rw[aa hb2] at h_1;cbv;iterate 2 try(rw[hb2];cbv)
  refine AStep.mk (xQ hg hi1 hl1) ?_;cbv;iterate 2 try(rw[hb2];cbv)
  cases hb3:(lt 90 (byte a0 v1))
  rotate_left
  ·rw[ab hb3] at h_1;cbv;subst h_1;try dsimp only[lr,lrL,lrp,aH] at h
   obtain rfl:=Option.some.inj h;exact ARet.mk trivial hX.symm
  rw[aa hb3] at h_1;cbv;try rw[hg] at h_1
  try rw[ht] at h_1
  refine⟨⟨(n1,(wrap .i64 (add v1 1))),hs1.1,hs1.2,h_1⟩,Wk.of [] rfl rfl ?_ ?_,Nat.lt_succ_self _⟩
  ·cbv;all_goals exact⟨⟨_,rfl,rfl⟩,⟨_,rfl,rfl⟩,trivial⟩
  cbv;all_goals exact trivial
 rintro _ hy1;replace hy1:=hy1.symm;subst hy1;try dsimp only[lr,lrL,lrp,aH] at h
 cbv;obtain rfl:=Option.some.inj h;exact ARet.mk trivial hX.symm
def E3:J:=js [jq 1 (.box 0),jm 2 kf] [1] (js [jf 3 0 1,jk 4 3,jc 5 148 [4],jm 6 5,ju 7 6 (.fa 1 1),ju 8 6 (.ld false 1 7),ju 9 6 (.call 148 true [8]),jq 10 (.pick 6 9 kf),jm 11 10,ju 12 11 (.fa 0 1),ju 13 11 (.ld false 1 12),ju 14 11 (.fa 1 1),ju 15 11 (.ld false 1 14),ju 16 11 (.bin .neq .s 13 15),jq 17 (.pick 11 16 kf),jm 18 17,ju 19 18 (.fa 2 1),ju 20 18 (.ld false 1 19),ju 21 18 (.call 87 true [20,(ki 0),(ki 1439)]),jq 22 (.pick 18 21 kf),jm 23 22,ju 24 23 (.fa 3 1),ju 25 23 (.ld false 1 24),ju 26 23 (.call 87 true [25,(ki 1),(ki 4320)]),jq 27 (.pick 23 26 kf),jm 28 27,ju 29 28 (.fa 4 1),ju 30 28 (.ld false 1 29),ju 31 28 (.call 87 true [30,(ki 1),(ki 127)]),jq 32 (.pick 28 31 kf),jm 33 32,ju 34 33 (.fa 5 1),ju 35 33 (.ld false 1 34),ju 36 33 (.call 87 true [35,(ki 0),(ki 1000000)]),jq 37 (.pick 33 36 kf),jm 2 37] [2] .ret)
def Fu:List RV:=[.t 2]
def nc (g:G) (t:TE) (a0:Leg):Option Bool:=
 cl (g8 g t a0.From) fun x1=>
 br x1
 (
  cl (g8 g t a0.To) fun x2=>
  br x2
  (
   br (g.seq a0.From a0.To)
   (
    some false)
   (
    lP (cT g t a0.Start 0 1439) fun x3=>
    br x3
    (
     lP (cT g t a0.Takes 1 4320) fun x4=>
     br x4
     (
      lP (cT g t a0.Days 1 127) fun x5=>
      br x5
      (
       lP (cT g t a0.Room 0 1000000) fun x6=>
       some x6)
      (
       some false))
     (
      some false))
    (
     some false)))
  (
   some false))
 (
  some false)
theorem yl {g:G} {t:TE} {a0:Leg} {r:Bool} (hg:g=G.real) (ht:t=TE.real) (h:nc g t a0=some r):Fn Tryz.prog 108 [.g (Leg.rs t a0)] (.c (.r (.v (.bool r)))):=by
 obtain⟨X,hX⟩:=aJ (.c (.r (.v (.bool r))):X);rw[←hX];refine aE (rvs:=Fu) (j:=E3) Tryz.func108 rfl (by kernel_rfl) (nb rfl) (by kernel_rfl) ac ?_;intro g2 F hg2 hF;obtain rfl:g2=g:=hg2.unique.trans hg.symm;clear hg2;obtain⟨_,_,_,_,_,_,_,_,_,_,_,_,_,_,_,_,_,seq⟩:=g2;obtain⟨_⟩:=t
 obtain⟨a0_From,a0_To,a0_Start,a0_Takes,a0_Days,a0_Room⟩:=a0;unfold nc at h;try dsimp only at h
 cbv;obtain⟨x1,hx1,h⟩:=ae h;try dsimp only at h
 refine ACall.mk _ _ rfl (hF _ _ _ (oI hg ht hx1)) (.inl rfl) (nb rfl) ?_;cbv
 cases hb1:x1
 ·rw[aa hb1] at h;cbv;iterate 3 try(rw[hb1];cbv)
  obtain rfl:=Option.some.inj h;exact ARet.mk trivial hX.symm
 rw[ab hb1] at h;cbv;iterate 2 try(rw[hb1];cbv)
 obtain⟨x2,hx2,h⟩:=ae h;try dsimp only at h
 refine ACall.mk _ _ rfl (hF _ _ _ (oI hg ht hx2)) (.inl rfl) (nb rfl) ?_;cbv;try(rw[hb1];cbv)
 cases hb2:x2
 ·rw[aa hb2] at h;cbv;iterate 5 try(rw[hb2];cbv)
  obtain rfl:=Option.some.inj h;exact ARet.mk trivial hX.symm
 rw[ab hb2] at h;cbv;iterate 5 try(rw[hb2];cbv)
 cases hb3:(seq a0_From a0_To)
 rotate_left
 ·rw[ab hb3] at h;cbv;iterate 3 try(rw[hb3];cbv)
  obtain rfl:=Option.some.inj h;exact ARet.mk trivial hX.symm
 rw[aa hb3] at h;cbv;iterate 2 try(rw[hb3];cbv)
 obtain⟨x3,hx3,h⟩:=ag h;try dsimp only at h
 refine ACall.mk _ _ rfl (hF _ _ _ (cQ hg ht hx3)) (.inl rfl) (nb rfl) ?_;cbv;try(rw[hb3];cbv)
 cases hb4:x3
 ·rw[aa hb4] at h;cbv;iterate 3 try(rw[hb4];cbv)
  obtain rfl:=Option.some.inj h;exact ARet.mk trivial hX.symm
 rw[ab hb4] at h;cbv;iterate 2 try(rw[hb4];cbv)
 obtain⟨x4,hx4,h⟩:=ag h;try dsimp only at h
 refine ACall.mk _ _ rfl (hF _ _ _ (cQ hg ht hx4)) (.inl rfl) (nb rfl) ?_;cbv;try(rw[hb4];cbv)
 cases hb5:x4
 ·rw[aa hb5] at h;cbv;iterate 3 try(rw[hb5];cbv)
  obtain rfl:=Option.some.inj h;exact ARet.mk trivial hX.symm
 rw[ab hb5] at h;cbv;iterate 2 try(rw[hb5];cbv)
 obtain⟨x5,hx5,h⟩:=ag h;try dsimp only at h
 refine ACall.mk _ _ rfl (hF _ _ _ (cQ hg ht hx5)) (.inl rfl) (nb rfl) ?_;cbv;try(rw[hb5];cbv)
 cases hb6:x5
 ·rw[aa hb6] at h;cbv;iterate 3 try(rw[hb6];cbv)
  obtain rfl:=Option.some.inj h;exact ARet.mk trivial hX.symm
 rw[ab hb6] at h;cbv;iterate 2 try(rw[hb6];cbv)
 obtain⟨x6,hx6,h⟩:=ag h;try dsimp only at h
 refine ACall.mk _ _ rfl (hF _ _ _ (cQ hg ht hx6)) (.inl rfl) (nb rfl) ?_;cbv;try(rw[hb6];cbv)
 obtain rfl:=Option.some.inj h;exact ARet.mk trivial hX.symm
def ir54:J:=js [jq 1 (.box 0),jm 2 kf] [1] (.seq (js [jf 7 0 1,jk 8 7,jq 9 (.len false 8),jm 10 (ki 0)] [1,8,9,10] (.bl 0 (js [jb 11 .lss .i 10 9] [1,8,9,10,11] (.seq (.cond 11 .skip (.exit 0)) (.seq (.block 1 (js [ja 12 6 8 10,jl 13 6 12,jq 4 (.alloc [.r (.v (.string .empty)),.r (.v (.string .empty)),.r (.v (.int .i64 0)),.r (.v (.int .i64 0)),.r (.v (.int .i64 0)),.r (.v (.int .i64 0))]),jp (.st 6 4 13)] [1,4,8,9,10] (js [jl 14 6 4,jc 15 108 [14],jq 16 (.not 15)] [1,8,9,10,16] (.cond 16 (js [jm 2 kf] [2] .ret) .skip)))) (.reg none [jb 17 .add .i 10 (ki 1),jm 10 17] [1,8,9,10])))))) (.seq (js [jf 18 1 1,jk 19 18,jq 20 (.len false 19),jm 21 (ki 0)] [1,19,20,21] (.bl 2 (js [jb 22 .lss .i 21 20] [1,19,20,21,22] (.seq (.cond 22 .skip (.exit 2)) (.seq (.block 3 (js [jm 23 21,ja 24 1 19 21,jk 25 24,jm 5 23,jm 6 25] [1,5,6,19,20,21] (js [jm 26 6,jc 27 87 [26,(ki 0),(ki 60)],jq 28 (.not 27),jm 29 28,jv 30 29 (.mv 5),jv 31 29 (.bin .gtr .i 30 (ki 0)),jv 32 29 (.mv 31),ju 33 32 (.fa 1 1),ju 34 32 (.ld false 1 33),ju 35 32 (.mv 5),ju 36 32 (.bin .sub .i 35 (ki 1)),ju 37 32 (.ia 1 34 36),ju 38 32 (.ld false 1 37),ju 39 32 (.mv 6),ju 40 32 (.bin .geq .i 38 39),jv 41 29 (.pick 32 40 kf),jq 42 (.pick 29 kt 41)] [1,19,20,21,42] (.cond 42 (js [jm 2 kf] [2] .ret) .skip)))) (.reg none [jb 43 .add .i 21 (ki 1),jm 21 43] [1,19,20,21])))))) (js [jf 44 0 1,jk 45 44,jq 46 (.len false 45),jb 47 .leq .i 46 (ki 20),jm 48 47,ju 49 48 (.fa 1 1),ju 50 48 (.ld false 1 49),ju 51 48 (.len false 50),ju 52 48 (.bin .leq .i 51 (ki 10)),jq 53 (.pick 48 52 kf),jm 54 53,ju 55 54 (.fa 2 1),ju 56 54 (.ld false 1 55),ju 57 54 (.call 87 true [56,(ki 0),(ki 240)]),jq 58 (.pick 54 57 kf),jm 2 58] [2] .ret)))
def rv54:List RV:=[.t 2]
def bP (g:G) (t:TE) (a0:Network):List Int→Int→Option (LR Bool Unit)
 |[],v2=>
  some (LR.out ())
 |z2::ls2,v2=>
  lP (cT g t z2 0 60) fun x2=>
  br x2
  (
   br (g.lt 0 v2)
   (
    gd (((0:Int)≤(g.wrap .i64 (g.sub v2 1))))<|
    gt a0.Off (g.nat (g.wrap .i64 (g.sub v2 1))) fun x3=>
    br (g.le z2 x3)
    (
     some (LR.ret false))
    (
     bP g t a0 ls2 (g.wrap .i64 (g.add v2 1))))
   (
    bP g t a0 ls2 (g.wrap .i64 (g.add v2 1))))
  (
   some (LR.ret false))
def bZ (g:G) (t:TE):List Leg→Option (LR Bool Unit)
 |[]=>
  some (LR.out ())
 |z1::ls1=>
  cl (nc g t z1) fun x1=>
  br x1
  (
   bZ g t ls1)
  (
   some (LR.ret false))
def cE (g:G) (t:TE) (a0:Network):Option Bool:=
 cl (bZ g t a0.Legs) fun o1=>lr o1 fun y1=>
 cl (bP g t a0 a0.Off 0) fun o2=>lr o2 fun y2=>
 br (g.le (g.llen (t.r_Leg a0.Legs)) 20)
 (
  br (g.le (g.llen (t.r_I64 a0.Off)) 10)
  (
   lP (cT g t a0.Change 0 240) fun x4=>
   some x4)
  (
   some false))
 (
  some false)
theorem eZ {g:G} {t:TE} {a0:Network} {r:Bool} (hg:g=G.real) (ht:t=TE.real) (h:cE g t a0=some r):Fn Tryz.prog 54 [.g (Network.rs t a0)] (.c (.r (.v (.bool r)))):=by
 obtain⟨X,hX⟩:=aJ (.c (.r (.v (.bool r))):X);rw[←hX];refine aE (rvs:=rv54) (j:=ir54) Tryz.func54 rfl (by kernel_rfl) (nb rfl) (by kernel_rfl) ac ?_;intro g2 F hg2 hF;obtain rfl:g2=g:=hg2.unique.trans hg.symm;clear hg2;obtain⟨wrap,lt,le,_,_,_,_,_,_,_,_,_,_,add,_,_,_,_,_,_,_,llen⟩:=g2;obtain⟨_,_,_,_,r_Leg,_,r_I64⟩:=t
 obtain⟨a0_Legs,a0_Off,a0_Change⟩:=a0;unfold cE at h;try dsimp only at h
 cbv;obtain⟨o1,ho1,h⟩:=ae h;try dsimp only at h
 try rw[hg] at ho1
 try rw[ht] at ho1
 refine ABL.mk {p:Nat×Int//p.1≤a0_Legs.length∧p.2=((p.1:Nat):Int)∧bZ G.real TE.real (List.drop p.1 a0_Legs)=some o1} (fun⟨⟨k1,v1⟩,_⟩=>({sl:=[(1,.c (.p 0 3 0 0)),(8,.c (.r (.s 6 (r_Leg a0_Legs)))),(9,.c (.r (.v (.int .i64 (llen (r_Leg a0_Legs)))))),(10,.c (.r (.v (.int .i64 v1))))],tab:=[(0,some (.foc 3 [] [.r (.s 6 (r_Leg a0_Legs)),.r (.s 1 (r_I64 a0_Off)),.r (.v (.int .i64 a0_Change))] []))]}:St)) 1 (fun p=>a0_Legs.length-p.1.1) ⟨(0,0),Nat.zero_le _,rfl,ho1⟩ (Unit) (fun _=>({sl:=[(1,.c (.p 0 3 0 0))],tab:=[(0,some (.foc 3 [] [.r (.s 6 (r_Leg a0_Legs)),.r (.s 1 (r_I64 a0_Off)),.r (.v (.int .i64 a0_Change))] []))]}:St)) 1 (fun y=>o1=LR.out y) ?_ ?_ ?_
 ·refine Wk.of [(0,some 0)] rfl rfl ?_ ?_
  ·cbv;all_goals exact⟨⟨_,rfl,rfl⟩,⟨_,rfl,rfl⟩,⟨_,rfl,rfl⟩,⟨_,rfl,rfl⟩,trivial⟩
  cbv;all_goals exact⟨⟨_,rfl,_,rfl,rfl,rfl,rfl,trivial⟩,trivial⟩
 ·rintro⟨⟨k1,v1⟩,hk1,hi1,h_1⟩ hq1;have hm1:=(hq1.1 8 _ _ rfl);try dsimp only at hk1 hi1 h_1
  clear hq1;cbv
  by_cases hc1_:k1<a0_Legs.length
  ·have hb1:lt v1 (llen (r_Leg a0_Legs))=true:=dW hg ht hi1 hc1_;have hs1:=gk hg ht hi1 hc1_ hm1;obtain⟨z1,hz1⟩:=av hc1_;rw[aq hz1] at h_1;rw[bZ] at h_1;obtain⟨z1_From,z1_To,z1_Start,z1_Takes,z1_Days,z1_Room⟩:=z1;try rw[←hg] at h_1
   try rw[←ht] at h_1
   try dsimp only at h_1
   rw[hb1];cbv;refine AStep.mk (d8 hi1) ?_;cbv;refine AGet.mk _ (dU hg ht hi1 hz1) ?_;cbv;obtain⟨x1,hx1,h_1⟩:=ae h_1;try dsimp only at h_1
   refine ACall.mk _ _ rfl (hF _ _ _ (yl hg ht hx1)) (.inl rfl) (nb rfl) ?_;cbv
   cases hb2:x1
   ·rw[aa hb2] at h_1;cbv;obtain rfl:=Option.some.inj h_1;try dsimp only[lr,lrL,lrp,aH] at h
    obtain rfl:=Option.some.inj h;exact ARet.mk trivial hX.symm
   rw[ab hb2] at h_1;cbv;try rw[hg] at h_1
   try rw[ht] at h_1
   refine⟨⟨(k1+1,(wrap .i64 (add v1 1))),hc1_,hs1,h_1⟩,Wk.of [(0,some 0)] rfl rfl ?_ ?_,aB hc1_⟩
   ·cbv;all_goals exact⟨⟨_,rfl,rfl⟩,⟨_,rfl,rfl⟩,⟨_,rfl,rfl⟩,⟨_,rfl,rfl⟩,trivial⟩
   cbv;all_goals exact⟨⟨_,rfl,_,rfl,rfl,rfl,rfl,trivial⟩,trivial⟩
  have hb1:lt v1 (llen (r_Leg a0_Legs))=false:=dn hg ht hi1 hc1_;rw[List.drop_of_length_le (Nat.le_of_not_lt hc1_)] at h_1;rw[bZ] at h_1;try rw[←hg] at h_1
  try rw[←ht] at h_1
  try dsimp only at h_1
  rw[hb1];cbv;refine⟨(),Wk.of [(0,some 0)] rfl rfl ?_ ?_,(Option.some.inj h_1).symm⟩
  ·cbv;all_goals exact⟨⟨_,rfl,rfl⟩,trivial⟩
  cbv;all_goals exact⟨⟨_,rfl,_,rfl,rfl,rfl,rfl,trivial⟩,trivial⟩
 rintro _ hy1;replace hy1:=hy1.symm;subst hy1;try dsimp only[lr,lrL,lrp,aH] at h
 cbv;obtain⟨o2,ho2,h⟩:=ae h;try dsimp only at h
 try rw[hg] at ho2
 try rw[ht] at ho2
 refine ABL.mk {p:Nat×Int//p.1≤a0_Off.length∧p.2=((p.1:Nat):Int)∧bP G.real TE.real (Network.mk a0_Legs a0_Off a0_Change) (List.drop p.1 a0_Off) p.2=some o2} (fun⟨⟨k2,v2⟩,_⟩=>({sl:=[(1,.c (.p 0 3 0 0)),(19,.c (.r (.s 1 (r_I64 a0_Off)))),(20,.c (.r (.v (.int .i64 (llen (r_I64 a0_Off)))))),(21,.c (.r (.v (.int .i64 v2))))],tab:=[(0,some (.foc 3 [] [.r (.s 6 (r_Leg a0_Legs)),.r (.s 1 (r_I64 a0_Off)),.r (.v (.int .i64 a0_Change))] []))]}:St)) 1 (fun p=>a0_Off.length-p.1.1) ⟨(0,0),Nat.zero_le _,rfl,ho2⟩ (Unit) (fun _=>({sl:=[(1,.c (.p 0 3 0 0))],tab:=[(0,some (.foc 3 [] [.r (.s 6 (r_Leg a0_Legs)),.r (.s 1 (r_I64 a0_Off)),.r (.v (.int .i64 a0_Change))] []))]}:St)) 1 (fun y=>o2=LR.out y) ?_ ?_ ?_
 ·refine Wk.of [(0,some 0)] rfl rfl ?_ ?_
  ·cbv;all_goals exact⟨⟨_,rfl,rfl⟩,⟨_,rfl,rfl⟩,⟨_,rfl,rfl⟩,⟨_,rfl,rfl⟩,trivial⟩
  cbv;all_goals exact⟨⟨_,rfl,_,rfl,rfl,rfl,rfl,trivial⟩,trivial⟩
 ·rintro⟨⟨k2,v2⟩,hk2,hi2,h_2⟩ hq2;have hm2:=(hq2.1 19 _ _ rfl);try dsimp only at hk2 hi2 h_2
  clear hq2;cbv
  by_cases hc2_:k2<a0_Off.length
  ·have hb3:lt v2 (llen (r_I64 a0_Off))=true:=fW hg ht hi2 hc2_;have hs2:=jt hg ht hi2 hc2_ hm2;obtain⟨z2,hz2⟩:=av hc2_;rw[aq hz2] at h_2;rw[bP] at h_2;try rw[←hg] at h_2
   try rw[←ht] at h_2
   try dsimp only at h_2
   rw[hb3];cbv;refine AStep.mk (d8 hi2) ?_;cbv;refine AGet.mk _ (gg hg ht hi2 hz2) ?_;cbv;obtain⟨x2,hx2,h_2⟩:=ag h_2;try dsimp only at h_2
   refine ACall.mk _ _ rfl (hF _ _ _ (cQ hg ht hx2)) (.inl rfl) (nb rfl) ?_;cbv
   cases hb4:x2
   ·rw[aa hb4] at h_2;cbv;iterate 4 try(rw[hb4];cbv)
    obtain rfl:=Option.some.inj h_2;try dsimp only[lr,lrL,lrp,aH] at h
    obtain rfl:=Option.some.inj h;exact ARet.mk trivial hX.symm
   rw[ab hb4] at h_2;cbv;iterate 2 try(rw[hb4];cbv)
   cases hb5:(lt 0 v2)
   ·rw[aa hb5] at h_2;cbv;iterate 7 try(rw[hb5];cbv)
    try(rw[hb4];cbv)
    try(rw[hb5];cbv)
    try(rw[hb4];cbv)
    try rw[hg] at h_2
    try rw[ht] at h_2
    refine⟨⟨(k2+1,(wrap .i64 (add v2 1))),hc2_,hs2,h_2⟩,Wk.of [(0,some 0)] rfl rfl ?_ ?_,aB hc2_⟩
    ·cbv;all_goals exact⟨⟨_,rfl,rfl⟩,⟨_,rfl,rfl⟩,⟨_,rfl,rfl⟩,⟨_,rfl,rfl⟩,trivial⟩
    cbv;all_goals exact⟨⟨_,rfl,_,rfl,rfl,rfl,rfl,trivial⟩,trivial⟩
   rw[ab hb5] at h_2;cbv;iterate 4 try(rw[hb5];cbv)
   obtain⟨hc1,h_2⟩:=ak h_2;refine AStep.mk hc1 ?_;cbv;obtain⟨x3,hx3,h_2⟩:=aV h_2;try dsimp only at h_2
   refine AGet.mk _ (d7 hg ht hx3) ?_;cbv;iterate 3 try(rw[hb5];cbv)
   try(rw[hb4];cbv)
   try(rw[hb5];cbv)
   try(rw[hb4];cbv)
   cases hb6:(le z2 x3)
   rotate_left
   ·rw[ab hb6] at h_2;cbv;obtain rfl:=Option.some.inj h_2;try dsimp only[lr,lrL,lrp,aH] at h
    obtain rfl:=Option.some.inj h;exact ARet.mk trivial hX.symm
   rw[aa hb6] at h_2;cbv;try rw[hg] at h_2
   try rw[ht] at h_2
   refine⟨⟨(k2+1,(wrap .i64 (add v2 1))),hc2_,hs2,h_2⟩,Wk.of [(0,some 0)] rfl rfl ?_ ?_,aB hc2_⟩
   ·cbv;all_goals exact⟨⟨_,rfl,rfl⟩,⟨_,rfl,rfl⟩,⟨_,rfl,rfl⟩,⟨_,rfl,rfl⟩,trivial⟩
   cbv;all_goals exact⟨⟨_,rfl,_,rfl,rfl,rfl,rfl,trivial⟩,trivial⟩
  have hb3:lt v2 (llen (r_I64 a0_Off))=false:=eX hg ht hi2 hc2_;rw[List.drop_of_length_le (Nat.le_of_not_lt hc2_)] at h_2;rw[bP] at h_2;try rw[←hg] at h_2
  try rw[←ht] at h_2
  try dsimp only at h_2
  rw[hb3];cbv;refine⟨(),Wk.of [(0,some 0)] rfl rfl ?_ ?_,(Option.some.inj h_2).symm⟩
  ·cbv;all_goals exact⟨⟨_,rfl,rfl⟩,trivial⟩
  cbv;all_goals exact⟨⟨_,rfl,_,rfl,rfl,rfl,rfl,trivial⟩,trivial⟩
 rintro _ hy2;replace hy2:=hy2.symm;subst hy2;try dsimp only[lr,lrL,lrp,aH] at h
 cbv
 cases hb7:(le (llen (r_Leg a0_Legs)) 20)
 ·rw[aa hb7] at h;cbv;iterate 4 try(rw[hb7];cbv)
  obtain rfl:=Option.some.inj h;exact ARet.mk trivial hX.symm
 rw[ab hb7] at h;cbv;iterate 4 try(rw[hb7];cbv)
 cases hb8:(le (llen (r_I64 a0_Off)) 10)
 ·rw[aa hb8] at h;cbv;iterate 3 try(rw[hb8];cbv)
  obtain rfl:=Option.some.inj h;exact ARet.mk trivial hX.symm
 rw[ab hb8] at h;cbv;iterate 2 try(rw[hb8];cbv)
 obtain⟨x4,hx4,h⟩:=ag h;try dsimp only at h
 refine ACall.mk _ _ rfl (hF _ _ _ (cQ hg ht hx4)) (.inl rfl) (nb rfl) ?_;cbv;try(rw[hb8];cbv)
 obtain rfl:=Option.some.inj h;exact ARet.mk trivial hX.symm
def Ey:J:=js [jq 3 (.box 0),jm 6 kf] [1,2,3] (.seq (js [jm 9 1,jb 10 .lss .i 9 (ki 0),jm 11 10,jv 12 11 (.mv 1),jv 13 11 (.fa 0 3),jv 14 11 (.ld false 1 13),jv 15 11 (.len false 14),jv 16 11 (.bin .geq .i 12 15),jq 17 (.pick 11 kt 16),jm 18 17,jv 19 18 (.mv 2),jv 20 18 (.call 87 true [19,(ki 0),(ki 60)]),jv 21 18 (.not 20),jq 22 (.pick 18 kt 21),jm 23 22,jv 24 23 (.fa 0 3),jv 25 23 (.ld false 1 24),jv 26 23 (.mv 1),jv 27 23 (.ia 6 25 26),jv 28 23 (.fa 4 27),jv 29 23 (.ld false 1 28),jv 30 23 (.mv 2),jv 31 23 (.bin .rem .i 30 (ki 7)),jv 32 23 (.bin .shr .i 29 31),jv 33 23 (.bin .and .i 32 (ki 1)),jv 34 23 (.bin .eql .i 33 (ki 0)),jq 35 (.pick 23 kt 34)] [2,3,35] (.cond 35 (js [jm 6 kf] [6] .ret) .skip)) (.seq (js [jf 36 1 3,jk 37 36,jq 38 (.len false 37),jm 39 (ki 0)] [2,37,38,39] (.bl 0 (js [jb 40 .lss .i 39 38] [2,37,38,39,40] (.seq (.cond 40 .skip (.exit 0)) (.seq (.block 1 (js [ja 41 1 37 39,jk 42 41,jm 8 42] [2,8,37,38,39] (js [jm 43 8,jm 44 2,jb 45 .eql .i 43 44] [2,37,38,39,45] (.cond 45 (js [jm 6 kf] [6] .ret) .skip)))) (.reg none [jb 46 .add .i 39 (ki 1),jm 39 46] [2,37,38,39])))))) (js [jm 6 kt] [6] .ret)))
def FQ:List RV:=[.t 6]
def fB (g:G) (t:TE) (a2:Int):List Int→LR Bool Unit
 |[]=>
  (LR.out ())
 |z1::ls1=>
  br (g.eq z1 a2)
  (
   (LR.ret false))
  (
   fB g t a2 ls1)
def kT (g:G) (t:TE) (a0:Network) (a1:Int) (a2:Int):Option Bool:=
 br (g.lt a1 0)
 (
  some false)
 (
  br (g.le (g.llen (t.r_Leg a0.Legs)) a1)
  (
   some false)
  (
   lP (cT g t a2 0 60) fun x1=>
   br x1
   (
    gd (((0:Int)≤a1))<|
    gt a0.Legs (g.nat a1) fun x2=>
    gd (((0:Int)≤(g.rem a2 7)))<|
    br (g.eq (g.band .i64 (g.shr .i64 x2.Days (g.rem a2 7)) 1) 0)
    (
     some false)
    (
     lP (fB g t a2 a0.Off) fun o1=>lr o1 fun y1=>
     some true))
   (
    some false)))
theorem pt {g:G} {t:TE} {a0:Network} {a1:Int} {a2:Int} {r:Bool} (hg:g=G.real) (ht:t=TE.real) (h:kT g t a0 a1 a2=some r):Fn Tryz.prog 100 [.g (Network.rs t a0),.c (.v (.int .i64 a1)),.c (.v (.int .i64 a2))] (.c (.r (.v (.bool r)))):=by
 obtain⟨X,hX⟩:=aJ (.c (.r (.v (.bool r))):X);rw[←hX];refine aE (rvs:=FQ) (j:=Ey) Tryz.func100 rfl (by kernel_rfl) (nb rfl) (by kernel_rfl) ac ?_;intro g2 F hg2 hF;obtain rfl:g2=g:=hg2.unique.trans hg.symm;clear hg2;obtain⟨wrap,lt,le,eq,_,rem,band,_,_,_,shr,_,_,add,_,_,_,_,_,_,_,llen⟩:=g2;obtain⟨_,_,_,_,r_Leg,_,r_I64⟩:=t
 obtain⟨a0_Legs,a0_Off,a0_Change⟩:=a0;unfold kT at h;try dsimp only at h
 cbv
 cases hb1:(lt a1 0)
 rotate_left
 ·rw[ab hb1] at h;cbv;iterate 5 try(rw[hb1];cbv)
  obtain rfl:=Option.some.inj h;exact ARet.mk trivial hX.symm
 rw[aa hb1] at h;cbv;iterate 5 try(rw[hb1];cbv)
 cases hb2:(le (llen (r_Leg a0_Legs)) a1)
 rotate_left
 ·rw[ab hb2] at h;cbv;iterate 3 try(rw[hb2];cbv)
  obtain rfl:=Option.some.inj h;exact ARet.mk trivial hX.symm
 rw[aa hb2] at h;cbv;try(rw[hb2];cbv)
 obtain⟨x1,hx1,h⟩:=ag h;try dsimp only at h
 refine ACall.mk _ _ rfl (hF _ _ _ (cQ hg ht hx1)) (.inl rfl) (nb rfl) ?_;cbv;iterate 2 try(rw[hb2];cbv)
 cases hb3:x1
 ·rw[aa hb3] at h;cbv;iterate 11 try(rw[hb3];cbv)
  obtain rfl:=Option.some.inj h;exact ARet.mk trivial hX.symm
 rw[ab hb3] at h;cbv;iterate 3 try(rw[hb3];cbv)
 obtain⟨hc1,h⟩:=ak h;refine AStep.mk hc1 ?_;cbv;obtain⟨x2,hx2,h⟩:=aV h;obtain⟨x2_From,x2_To,x2_Start,x2_Takes,x2_Days,x2_Room⟩:=x2;try dsimp only at h
 refine AGet.mk _ (bg hg ht hx2) ?_;cbv;iterate 4 try(rw[hb3];cbv)
 refine AStep.mk (by decide) ?_;cbv;try(rw[hb3];cbv)
 obtain⟨hc2,h⟩:=ak h;refine AStep.mk hc2 ?_;cbv;iterate 3 try(rw[hb3];cbv)
 cases hb4:(eq (band .i64 (shr .i64 x2_Days (rem a2 7)) 1) 0)
 rotate_left
 ·rw[ab hb4] at h;cbv;obtain rfl:=Option.some.inj h;exact ARet.mk trivial hX.symm
 rw[aa hb4] at h;cbv;obtain⟨o1,ho1,h⟩:=ag h;try dsimp only at h
 try rw[hg] at ho1
 try rw[ht] at ho1
 refine ABL.mk {p:Nat×Int//p.1≤a0_Off.length∧p.2=((p.1:Nat):Int)∧fB G.real TE.real a2 (List.drop p.1 a0_Off)=o1} (fun⟨⟨k1,v1⟩,_⟩=>({sl:=[(2,.c (.r (.v (.int .i64 a2)))),(37,.c (.r (.s 1 (r_I64 a0_Off)))),(38,.c (.r (.v (.int .i64 (llen (r_I64 a0_Off)))))),(39,.c (.r (.v (.int .i64 v1))))],tab:=[]}:St)) 0 (fun p=>a0_Off.length-p.1.1) ⟨(0,0),Nat.zero_le _,rfl,ho1⟩ (Unit) (fun _=>({sl:=[],tab:=[]}:St)) 0 (fun y=>o1=LR.out y) ?_ ?_ ?_
 ·refine Wk.of [] rfl rfl ?_ ?_
  ·cbv;all_goals exact⟨⟨_,rfl,rfl⟩,⟨_,rfl,rfl⟩,⟨_,rfl,rfl⟩,⟨_,rfl,rfl⟩,trivial⟩
  cbv;all_goals exact trivial
 ·rintro⟨⟨k1,v1⟩,hk1,hi1,h_1⟩ hq1;have hm1:=(hq1.1 37 _ _ rfl);try dsimp only at hk1 hi1 h_1
  clear hq1;cbv
  by_cases hc1_:k1<a0_Off.length
  ·have hb5:lt v1 (llen (r_I64 a0_Off))=true:=fW hg ht hi1 hc1_;have hs1:=jt hg ht hi1 hc1_ hm1;obtain⟨z1,hz1⟩:=av hc1_;rw[aq hz1] at h_1;rw[fB] at h_1;try rw[←hg] at h_1
   try rw[←ht] at h_1
   try dsimp only at h_1
   rw[hb5];cbv;refine AStep.mk (d8 hi1) ?_;cbv;refine AGet.mk _ (gg hg ht hi1 hz1) ?_;cbv
   cases hb6:(eq z1 a2)
   rotate_left
   ·rw[ab hb6] at h_1;cbv;subst h_1;try dsimp only[lr,lrL,lrp,aH] at h
    obtain rfl:=Option.some.inj h;exact ARet.mk trivial hX.symm
   rw[aa hb6] at h_1;cbv;try rw[hg] at h_1
   try rw[ht] at h_1
   refine⟨⟨(k1+1,(wrap .i64 (add v1 1))),hc1_,hs1,h_1⟩,Wk.of [] rfl rfl ?_ ?_,aB hc1_⟩
   ·cbv;all_goals exact⟨⟨_,rfl,rfl⟩,⟨_,rfl,rfl⟩,⟨_,rfl,rfl⟩,⟨_,rfl,rfl⟩,trivial⟩
   cbv;all_goals exact trivial
  have hb5:lt v1 (llen (r_I64 a0_Off))=false:=eX hg ht hi1 hc1_;rw[List.drop_of_length_le (Nat.le_of_not_lt hc1_)] at h_1;rw[fB] at h_1;try rw[←hg] at h_1
  try rw[←ht] at h_1
  try dsimp only at h_1
  rw[hb5];cbv;refine⟨(),Wk.of [] rfl rfl ?_ ?_,h_1.symm⟩
  ·cbv;all_goals exact trivial
  cbv;all_goals exact trivial
 rintro _ hy1;replace hy1:=hy1.symm;subst hy1;try dsimp only[lr,lrL,lrp,aH] at h
 cbv;obtain rfl:=Option.some.inj h;exact ARet.mk trivial hX.symm
def Ef:J:=js [jq 3 (.box 0),jm 6 kf] [1,2,3] (js [jl 7 3 3,jc 8 54 [7],jm 9 8,ju 10 9 (.ld true 3 3),ju 11 9 (.mv 1),ju 12 9 (.mv 2),ju 13 9 (.call 100 true [10,11,12]),jq 14 (.pick 9 13 kf),jm 6 14] [6] .ret)
def E9:List RV:=[.t 6]
def mr (g:G) (t:TE) (a0:Network) (a1:Int) (a2:Int):Option Bool:=
 cl (cE g t a0) fun x1=>
 br x1
 (
  cl (kT g t a0 a1 a2) fun x2=>
  some x2)
 (
  some false)
theorem wI {g:G} {t:TE} {a0:Network} {a1:Int} {a2:Int} {r:Bool} (hg:g=G.real) (ht:t=TE.real) (h:mr g t a0 a1 a2=some r):Fn Tryz.prog 131 [.g (Network.rs t a0),.c (.v (.int .i64 a1)),.c (.v (.int .i64 a2))] (.c (.r (.v (.bool r)))):=by
 obtain⟨X,hX⟩:=aJ (.c (.r (.v (.bool r))):X);rw[←hX];refine aE (rvs:=E9) (j:=Ef) Tryz.func131 rfl (by kernel_rfl) (nb rfl) (by kernel_rfl) ac ?_;intro g2 F hg2 hF;obtain rfl:g2=g:=hg2.unique.trans hg.symm;clear hg2;obtain⟨_⟩:=g2;obtain⟨_⟩:=t
 obtain⟨a0_Legs,a0_Off,a0_Change⟩:=a0;unfold mr at h;try dsimp only at h
 cbv;obtain⟨x1,hx1,h⟩:=ae h;try dsimp only at h
 refine ACall.mk _ _ rfl (hF _ _ _ (eZ hg ht hx1)) (.inl rfl) (nb rfl) ?_;cbv
 cases hb1:x1
 ·rw[aa hb1] at h;cbv;iterate 4 try(rw[hb1];cbv)
  obtain rfl:=Option.some.inj h;exact ARet.mk trivial hX.symm
 rw[ab hb1] at h;cbv;iterate 3 try(rw[hb1];cbv)
 obtain⟨x2,hx2,h⟩:=ae h;try dsimp only at h
 refine ACall.mk _ _ rfl (hF _ _ _ (pt hg ht hx2)) (.inl rfl) (nb rfl) ?_;cbv;try(rw[hb1];cbv)
 obtain rfl:=Option.some.inj h;exact ARet.mk trivial hX.symm
def ir76:J:=js [jq 2 (.box 0),jq 3 (.box 1),jm 4 kf] [2,3] (js [jl 5 3 2,jf 6 0 3,jk 7 6,jf 8 1 3,jk 9 8,jc 10 131 [5,7,9],jm 4 10] [4] .ret)
def rv76:List RV:=[.t 4]
def fK (g:G) (t:TE) (a0:Network) (a1:Trip):Option Bool:=
 cl (mr g t a0 a1.Leg a1.Day) fun x1=>
 some x1
theorem ic {g:G} {t:TE} {a0:Network} {a1:Trip} {r:Bool} (hg:g=G.real) (ht:t=TE.real) (h:fK g t a0 a1=some r):Fn Tryz.prog 76 [.g (Network.rs t a0),.g (Trip.rs t a1)] (.c (.r (.v (.bool r)))):=by
 obtain⟨X,hX⟩:=aJ (.c (.r (.v (.bool r))):X);rw[←hX];refine aE (rvs:=rv76) (j:=ir76) Tryz.func76 rfl (by kernel_rfl) (nb rfl) (by kernel_rfl) ac ?_;intro g2 F hg2 hF;obtain rfl:g2=g:=hg2.unique.trans hg.symm;clear hg2;obtain⟨_⟩:=g2;obtain⟨_⟩:=t
 obtain⟨a0_Legs,a0_Off,a0_Change⟩:=a0;obtain⟨a1_Leg,a1_Day⟩:=a1;unfold fK at h;try dsimp only at h
 cbv;obtain⟨x1,hx1,h⟩:=ae h;try dsimp only at h
 refine ACall.mk _ _ rfl (hF _ _ _ (wI hg ht hx1)) (.inl rfl) (nb rfl) ?_;cbv;obtain rfl:=Option.some.inj h;exact ARet.mk trivial hX.symm
def ir77:J:=js [jq 3 (.box 1),jm 4 (ki 0)] [0,3] (js [jm 5 (ki 0)] [0,3,5] (.seq (js [jm 8 0,jq 9 (.len false 8),jm 10 (ki 0)] [3,5,8,9,10] (.bl 0 (js [jb 11 .lss .i 10 9] [3,5,8,9,10,11] (.seq (.cond 11 .skip (.exit 0)) (.seq (.block 1 (js [ja 12 4 8 10,jl 13 4 12,jq 7 (.alloc [.r (.v (.int .i64 0)),.r (.v (.int .i64 0)),.r (.v (.int .i64 0)),.r (.v (.int .i64 0))]),jp (.st 4 7 13)] [3,5,7,8,9,10] (js [jf 14 1 7,jl 15 2 14,jl 16 2 3,jq 17 (.eqs false [.i,.i] 15 16)] [3,5,7,8,9,10,17] (.cond 17 (.reg none [jm 18 5,jf 19 3 7,jk 20 19,jb 21 .add .i 18 20,jm 5 21] [3,5,8,9,10]) .skip)))) (.reg none [jb 22 .add .i 10 (ki 1),jm 10 22] [3,5,8,9,10])))))) (js [jm 23 5,jm 4 23] [4] .ret)))
def rv77:List RV:=[.t 4]
def bQ (g:G) (t:TE) (a1:Trip):List Booking→Int→Int
 |[],v1=>
  v1
 |z1::ls1,v1=>
  br (g.all [(g.eq z1.Trip.Leg a1.Leg),(g.eq z1.Trip.Day a1.Day)])
  (
   bQ g t a1 ls1 (g.wrap .i64 (g.add v1 z1.Weight)))
  (
   bQ g t a1 ls1 v1)
def cA (g:G) (t:TE) (a0:List Booking) (a1:Trip):Int:=
 lP (bQ g t a1 a0 0) fun y1=>
 y1
theorem jJ {g:G} {t:TE} {a0:List Booking} {a1:Trip} {r:Int} (hg:g=G.real) (ht:t=TE.real) (h:cA g t a0 a1=r):Fn Tryz.prog 77 [.c (.s 4 (t.r_Booking a0)),.g (Trip.rs t a1)] (.c (.r (.v (.int .i64 r)))):=by
 obtain⟨X,hX⟩:=aJ (.c (.r (.v (.int .i64 r))):X);rw[←hX];refine aE (rvs:=rv77) (j:=ir77) Tryz.func77 rfl (by kernel_rfl) (nb rfl) (by kernel_rfl) ac ?_;intro g2 F hg2 hF;obtain rfl:g2=g:=hg2.unique.trans hg.symm;clear hg2;obtain⟨wrap,lt,_,eq,_,_,_,_,_,_,_,_,_,add,_,_,_,_,_,_,_,llen,_,_,_,_,_,_,_,_,_,_,_,all⟩:=g2;obtain⟨_,_,_,_,_,_,_,_,_,_,r_Booking⟩:=t
 obtain⟨a1_Leg,a1_Day⟩:=a1;unfold cA at h;try dsimp only at h
 cbv;obtain⟨o1,ho1,h⟩:=ag h;try dsimp only at h
 try rw[hg] at ho1
 try rw[ht] at ho1
 refine ABL.mk {p:Nat×Int×Int//p.1≤a0.length∧p.2.1=((p.1:Nat):Int)∧bQ G.real TE.real (Trip.mk a1_Leg a1_Day) (List.drop p.1 a0) p.2.2=o1} (fun⟨⟨k1,v2,v1⟩,_⟩=>({sl:=[(3,.c (.p 0 2 0 0)),(5,.c (.r (.v (.int .i64 v1)))),(8,.c (.r (.s 4 (r_Booking a0)))),(9,.c (.r (.v (.int .i64 (llen (r_Booking a0)))))),(10,.c (.r (.v (.int .i64 v2))))],tab:=[(0,some (.foc 2 [] [.r (.v (.int .i64 a1_Leg)),.r (.v (.int .i64 a1_Day))] []))]}:St)) 1 (fun p=>a0.length-p.1.1) ⟨(0,0,0),Nat.zero_le _,rfl,ho1⟩ (Int) (fun y1=>({sl:=[(5,.c (.r (.v (.int .i64 y1))))],tab:=[]}:St)) 0 (fun y=>o1=y) ?_ ?_ ?_
 ·refine Wk.of [(0,some 0)] rfl rfl ?_ ?_
  ·cbv;all_goals exact⟨⟨_,rfl,rfl⟩,⟨_,rfl,rfl⟩,⟨_,rfl,rfl⟩,⟨_,rfl,rfl⟩,⟨_,rfl,rfl⟩,trivial⟩
  cbv;all_goals exact⟨⟨_,rfl,_,rfl,rfl,rfl,trivial⟩,trivial⟩
 ·rintro⟨⟨k1,v2,v1⟩,hk1,hi1,h_1⟩ hq1;have hm1:=(hq1.1 8 _ _ rfl);try dsimp only at hk1 hi1 h_1
  clear hq1;cbv
  by_cases hc1_:k1<a0.length
  ·have hb1:lt v2 (llen (r_Booking a0))=true:=bU hg ht hi1 hc1_;have hs1:=dt hg ht hi1 hc1_ hm1;obtain⟨z1,hz1⟩:=av hc1_;rw[aq hz1] at h_1;rw[bQ] at h_1;obtain⟨z1_Thing,⟨z1_Trip_Leg,z1_Trip_Day⟩,z1_Weight⟩:=z1;try rw[←hg] at h_1
   try rw[←ht] at h_1
   try dsimp only at h_1
   rw[hb1];cbv;refine AStep.mk (d8 hi1) ?_;cbv;refine AGet.mk _ (bL hg ht hi1 hz1) ?_;cbv
   cases hb2:(all [(eq z1_Trip_Leg a1_Leg),(eq z1_Trip_Day a1_Day)])
   ·rw[aa hb2] at h_1;cbv;try rw[hg] at h_1
    try rw[ht] at h_1
    refine⟨⟨(k1+1,(wrap .i64 (add v2 1)),v1),hc1_,hs1,h_1⟩,Wk.of [(0,some 0)] rfl rfl ?_ ?_,aB hc1_⟩
    ·cbv;all_goals exact⟨⟨_,rfl,rfl⟩,⟨_,rfl,rfl⟩,⟨_,rfl,rfl⟩,⟨_,rfl,rfl⟩,⟨_,rfl,rfl⟩,trivial⟩
    cbv;all_goals exact⟨⟨_,rfl,_,rfl,rfl,rfl,trivial⟩,trivial⟩
   rw[ab hb2] at h_1;cbv;try rw[hg] at h_1
   try rw[ht] at h_1
   refine⟨⟨(k1+1,(wrap .i64 (add v2 1)),(wrap .i64 (add v1 z1_Weight))),hc1_,hs1,h_1⟩,Wk.of [(0,some 0)] rfl rfl ?_ ?_,aB hc1_⟩
   ·cbv;all_goals exact⟨⟨_,rfl,rfl⟩,⟨_,rfl,rfl⟩,⟨_,rfl,rfl⟩,⟨_,rfl,rfl⟩,⟨_,rfl,rfl⟩,trivial⟩
   cbv;all_goals exact⟨⟨_,rfl,_,rfl,rfl,rfl,trivial⟩,trivial⟩
  have hb1:lt v2 (llen (r_Booking a0))=false:=bM hg ht hi1 hc1_;rw[List.drop_of_length_le (Nat.le_of_not_lt hc1_)] at h_1;rw[bQ] at h_1;try rw[←hg] at h_1
  try rw[←ht] at h_1
  try dsimp only at h_1
  rw[hb1];cbv;refine⟨v1,Wk.of [] rfl rfl ?_ ?_,h_1.symm⟩
  ·cbv;all_goals exact⟨⟨_,rfl,rfl⟩,trivial⟩
  cbv;all_goals exact trivial
 rintro y1 hy1;replace hy1:=hy1.symm;subst hy1;try dsimp only[lr,lrL,lrp,aH] at h
 cbv;subst h;exact ARet.mk trivial hX.symm
end Go.Vs
