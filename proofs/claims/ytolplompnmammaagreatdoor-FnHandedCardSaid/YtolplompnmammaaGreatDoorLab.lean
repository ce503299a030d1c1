/- Part of the proofs of this seat's laws: Lab. No condition. -/
import Derived.Test.YtolplompnmammaaGreatDoorTy
import Derived.Test.YtolplompnmammaaGreatDoorTIRall
import Derived.Test.YtolplompnmammaaGreatDoorLaa
set_option linter.unusedVariables false
set_option linter.unusedSimpArgs false
set_option linter.unusedSectionVars false
namespace Go.Vs
set_option maxRecDepth 100000
def ir91:J:=js [jq 6 (.box 0),jq 12 (.alloc [.r (.v (.int .i64 0)),.r (.v (.int .i64 0))])] [1,2,3,4,5,6,12] (.seq (js [jm 13 (ki 0)] [1,2,3,4,5,6,12,13] (.bl 0 (.seq (js [jm 16 13,jf 17 0 6,jk 18 17,jq 19 (.len false 18),jb 20 .lss .i 16 19] [1,2,3,4,5,6,12,13,20] (.cond 20 .skip (.exit 0))) (.seq (.block 1 (js [jm 23 1,jf 24 0 6,jk 25 24,jm 26 13,ja 27 6 25 26,jf 28 0 27,jk 29 28,jc 30 89 [23,29],jm 14 30] [1,2,3,4,5,6,12,13,14] (.seq (.seq (.reg (some [[],[0],[],[0,1,2],[0,1,2,3],[0,1,2,3,4],[],[],[6,7],[6,7,8],[0,1,2,3,4,5,6,7,8,9],[0,1,2,3,4,5,6,7,8,9,10],[0,1,2,3,4,5,6,7,8,9,10,11],[0,1,2,3,4,5,6,7,8,9,10,11],[0,1,2,3,4,5,6,7,8,9,10,11,12,13],[0,1,2,3,4,5,6,7,8,9,10,11,12,13,14],[0,1,2,3,4,5,6,7,8,9,10,11,12,13,14,15],[0,1,2,3,4,5,6,7,8,9,10,11,12,13,14,15,16]]) [jf 31 0 6,jk 32 31,jm 33 13,ja 34 6 32 33,jf 35 1 34,jk 36 35,jm 37 1,jm 38 4,ja 39 1 37 38,jk 40 39,jb 41 .neq .s 36 40,jm 42 41,jv 43 42 (.mv 2),jv 44 42 (.mv 14),jv 45 42 (.ia 1 43 44),jv 46 42 (.ld false 1 45),jv 47 42 (.bin .lss .i 46 (ki 0)),jq 48 (.pick 42 kt 47)] [1,2,3,4,5,6,12,13,14,48]) (.cond 48 (.exit 1) .skip)) (.seq (.reg (some [[],[],[],[],[],[],[4,5],[4,5,6],[],[],[8,9],[3,4,5,6,7,8,9,10],[1,2,3,4,5,6,7,8,9,10,11],[0,1,2,3,4,5,6,7,8,9,10,11,12],[],[0,1,2,3,4,5,6,7,8,9,10,11,12,13,14]]) [jm 49 13,jl 50 3 6,jm 51 13,jl 52 3 6,jm 53 2,jm 54 14,ja 55 1 53 54,jk 56 55,jm 57 14,jm 58 3,jb 59 .eql .i 57 58,jc 60 122 [52,56,59],jc 61 121 [50,51,60],jq 62 (.bld [.r (.v (.int .i64 0)),.r (.v (.int .i64 0))] [(0,1,49),(1,1,61)]),jq 15 (.alloc [.r (.v (.int .i64 0)),.r (.v (.int .i64 0))]),jp (.st 2 15 62)] [1,2,3,4,5,6,12,13,15]) (js [jf 63 1 15,jk 64 63,jb 65 .geq .i 64 (ki 0),jm 66 65,ju 67 66 (.ld true 3 6),ju 68 66 (.ld true 2 15),ju 69 66 (.call 94 true [67,68]),ju 70 66 (.mv 5),ju 71 66 (.bin .eql .i 69 70),jq 72 (.pick 66 71 kf)] [1,2,3,4,5,6,12,13,15,72] (.cond 72 (js [jl 73 2 15,jp (.st 2 12 73)] [12] .ret) .skip)))))) (.reg none [jm 21 13,jb 22 .add .i 21 (ki 1),jm 13 22] [1,2,3,4,5,6,12,13]))))) (js [jq 74 (.bld [.r (.v (.int .i64 0)),.r (.v (.int .i64 0))] []),jp (.st 2 12 74)] [12] .ret))
def rv91:List RV:=[.c 12 true 2]
open Go.Proofs Go.IntWalk
set_option linter.unusedVariables false
set_option maxHeartbeats 4000000
def cH (g:G) (t:TE) (a0:Network) (a1:List ByteArray) (a2:List Int) (a3:Int) (a4:Int) (a5:Int):List Leg→Int→Option (LR Trip Unit)
 |[],v1=>
  some (LR.out ())
 |z1::ls1,v1=>
  lP (cJ g t a1 z1.From) fun x1=>
  gd (((0:Int)≤a4))<|
  gt a1 (g.nat a4) fun x2=>
  br (g.seq z1.To x2)
  (
   gd (((0:Int)≤x1))<|
   gt a2 (g.nat x1) fun x3=>
   br (g.lt x3 0)
   (
    cH g t a0 a1 a2 a3 a4 a5 ls1 (g.wrap .i64 (g.add v1 1)))
   (
    gd (((0:Int)≤x1))<|
    lP (fK g t a0 x3 (g.eq x1 a3)) fun x4=>
    cl (fA g t a0 v1 x4) fun x5=>
    br (g.le 0 x5)
    (
     cl (eE g t a0 (Trip.mk v1 x5)) fun x6=>
     br (g.eq x6 a5)
     (
      some (LR.ret (Trip.mk v1 x5)))
     (
      cH g t a0 a1 a2 a3 a4 a5 ls1 (g.wrap .i64 (g.add v1 1))))
    (
     cH g t a0 a1 a2 a3 a4 a5 ls1 (g.wrap .i64 (g.add v1 1)))))
  (
   cH g t a0 a1 a2 a3 a4 a5 ls1 (g.wrap .i64 (g.add v1 1)))
def mW (g:G) (t:TE) (a0:Network) (a1:List ByteArray) (a2:List Int) (a3:Int) (a4:Int) (a5:Int):Option Trip:=
 cl (cH g t a0 a1 a2 a3 a4 a5 a0.Legs 0) fun o1=>lr o1 fun y1=>
 some (Trip.mk 0 0)
theorem xI {g:G} {t:TE} {a0:Network} {a1:List ByteArray} {a2:List Int} {a3:Int} {a4:Int} {a5:Int} {r:Trip} (hg:g=G.real) (ht:t=TE.real) (h:mW g t a0 a1 a2 a3 a4 a5=some r):Fn Tryz.prog 91 [.g (Network.rs t a0),.c (.s 1 (t.r_S a1)),.c (.s 1 (t.r_I64 a2)),.c (.v (.int .i64 a3)),.c (.v (.int .i64 a4)),.c (.v (.int .i64 a5))] (.g (Trip.ds t r)):=by
 obtain⟨X,hX⟩:=aE (.g (Trip.ds t r):X);rw[←hX];refine aB (rvs:=rv91) (j:=ir91) Tryz.func91 rfl (by kernel_rfl) (nb rfl) (by kernel_rfl) af ?_;intro g2 F hg2 hF;obtain rfl:g2=g:=hg2.unique.trans hg.symm;clear hg2;obtain⟨wrap,lt,le,eq,_,_,_,_,_,_,_,_,_,add,_,_,_,seq,_,_,_,llen⟩:=g2;obtain⟨_,_,r_Leg,_,r_I64,_,_,_,r_S⟩:=t
 obtain⟨a0_Legs,a0_Off,a0_Change⟩:=a0;unfold mW at h;try dsimp only at h
 cbv;obtain⟨o1,ho1,h⟩:=ac h;try dsimp only at h
 try rw[hg] at ho1
 try rw[ht] at ho1
 refine ABL.mk {p:Nat×Int//p.1≤a0_Legs.length∧p.2=((p.1:Nat):Int)∧cH G.real TE.real (Network.mk a0_Legs a0_Off a0_Change) a1 a2 a3 a4 a5 (List.drop p.1 a0_Legs) p.2=some o1} (fun⟨⟨k1,v1⟩,_⟩=>({sl:=[(1,.c (.r (.s 1 (r_S a1)))),(2,.c (.r (.s 1 (r_I64 a2)))),(3,.c (.r (.v (.int .i64 a3)))),(4,.c (.r (.v (.int .i64 a4)))),(5,.c (.r (.v (.int .i64 a5)))),(6,.c (.p 0 3 0 0)),(12,.c (.p 1 2 0 0)),(13,.c (.r (.v (.int .i64 v1))))],tab:=[(0,some (.foc 3 [] [.r (.s 6 (r_Leg a0_Legs)),.r (.s 1 (r_I64 a0_Off)),.r (.v (.int .i64 a0_Change))] [])),(1,some (.foc 2 [] [.r (.v (.int .i64 0)),.r (.v (.int .i64 0))] []))]}:St)) 2 (fun p=>a0_Legs.length-p.1.1) ⟨(0,0),Nat.zero_le _,rfl,ho1⟩ (Unit) (fun _=>({sl:=[(12,.c (.p 0 2 0 0))],tab:=[(0,some (.foc 2 [] [.r (.v (.int .i64 0)),.r (.v (.int .i64 0))] []))]}:St)) 1 (fun y=>o1=LR.out y) ?_ ?_ ?_
 ·refine Wk.of [(0,some 0),(1,some 16)] rfl rfl ?_ ?_
  ·cbv;all_goals exact⟨⟨_,rfl,rfl⟩,⟨_,rfl,rfl⟩,⟨_,rfl,rfl⟩,⟨_,rfl,rfl⟩,⟨_,rfl,rfl⟩,⟨_,rfl,rfl⟩,⟨_,rfl,rfl⟩,⟨_,rfl,rfl⟩,trivial⟩
  cbv;all_goals exact⟨⟨_,rfl,_,rfl,rfl,rfl,rfl,trivial⟩,⟨_,rfl,_,rfl,rfl,rfl,trivial⟩,trivial⟩
 ·rintro⟨⟨k1,v1⟩,hk1,hi1,h_1⟩ hq1;have hm1:=(hq1.2.2.1 0 _ _ _ _ 0 _ _ rfl rfl);try dsimp only at hk1 hi1 h_1
  clear hq1;cbv
  by_cases hc1_:k1<a0_Legs.length
  ·have hb1:lt v1 (llen (r_Leg a0_Legs))=true:=ee hg ht hi1 hc1_;have hs1:=gB hg ht hi1 hc1_ hm1;obtain⟨z1,hz1⟩:=aW hc1_;rw[aD hz1] at h_1;rw[cH] at h_1;obtain⟨z1_From,z1_To,z1_Start,z1_Takes,z1_Days,z1_Room⟩:=z1;try rw[←hg] at h_1
   try rw[←ht] at h_1
   try dsimp only at h_1
   rw[hb1];cbv;refine AStep.mk (f8 hi1) ?_;cbv;refine AGet.mk _ (eD hg ht hi1 hz1) ?_;cbv;obtain⟨x1,hx1,h_1⟩:=ah h_1;try dsimp only at h_1
   refine ACall.mk _ _ rfl (hF _ _ _ (dc hg ht hx1)) (.inl rfl) (nb rfl) ?_;cbv;refine AStep.mk (f8 hi1) ?_;cbv;refine AGet.mk _ (eD hg ht hi1 hz1) ?_;cbv;obtain⟨hc1,h_1⟩:=aj h_1;refine AStep.mk hc1 ?_;cbv;obtain⟨x2,hx2,h_1⟩:=aP h_1;try dsimp only at h_1
   refine AGet.mk _ (ut hg ht hx2) ?_;cbv
   cases hb2:(seq z1_To x2)
   ·rw[aa hb2] at h_1;cbv;iterate 5 try(rw[hb2];cbv)
    try rw[hg] at h_1
    try rw[ht] at h_1
    refine⟨⟨(k1+1,(wrap .i64 (add v1 1))),hc1_,hs1,h_1⟩,Wk.of [(0,some 0),(1,some 1)] rfl rfl ?_ ?_,a7 hc1_⟩
    ·cbv;all_goals exact⟨⟨_,rfl,rfl⟩,⟨_,rfl,rfl⟩,⟨_,rfl,rfl⟩,⟨_,rfl,rfl⟩,⟨_,rfl,rfl⟩,⟨_,rfl,rfl⟩,⟨_,rfl,rfl⟩,⟨_,rfl,rfl⟩,trivial⟩
    cbv;all_goals exact⟨⟨_,rfl,_,rfl,rfl,rfl,rfl,trivial⟩,⟨_,rfl,_,rfl,rfl,rfl,trivial⟩,trivial⟩
   rw[ab hb2] at h_1;cbv;iterate 2 try(rw[hb2];cbv)
   obtain⟨hc2,h_1⟩:=aj h_1;refine AStep.mk hc2 ?_;cbv;obtain⟨x3,hx3,h_1⟩:=aP h_1;try dsimp only at h_1
   refine AGet.mk _ (fM hg ht hx3) ?_;cbv;iterate 3 try(rw[hb2];cbv)
   cases hb3:(lt x3 0)
   rotate_left
   ·rw[ab hb3] at h_1;cbv;try rw[hg] at h_1
    try rw[ht] at h_1
    refine⟨⟨(k1+1,(wrap .i64 (add v1 1))),hc1_,hs1,h_1⟩,Wk.of [(0,some 0),(1,some 1)] rfl rfl ?_ ?_,a7 hc1_⟩
    ·cbv;all_goals exact⟨⟨_,rfl,rfl⟩,⟨_,rfl,rfl⟩,⟨_,rfl,rfl⟩,⟨_,rfl,rfl⟩,⟨_,rfl,rfl⟩,⟨_,rfl,rfl⟩,⟨_,rfl,rfl⟩,⟨_,rfl,rfl⟩,trivial⟩
    cbv;all_goals exact⟨⟨_,rfl,_,rfl,rfl,rfl,rfl,trivial⟩,⟨_,rfl,_,rfl,rfl,rfl,trivial⟩,trivial⟩
   rw[aa hb3] at h_1;cbv;obtain⟨hc3,h_1⟩:=aj h_1;refine AStep.mk hc3 ?_;cbv;refine AGet.mk _ (fM hg ht hx3) ?_;cbv;obtain⟨x4,hx4,h_1⟩:=ah h_1;try dsimp only at h_1
   refine ACall.mk _ _ rfl (hF _ _ _ (pu hg ht hx4)) (.inl rfl) (nb rfl) ?_;cbv;obtain⟨x5,hx5,h_1⟩:=ac h_1;try dsimp only at h_1
   refine ACall.mk _ _ rfl (hF _ _ _ (mH hg ht hx5)) (.inl rfl) (nb rfl) ?_;cbv
   cases hb4:(le 0 x5)
   ·rw[aa hb4] at h_1;cbv;iterate 5 try(rw[hb4];cbv)
    try rw[hg] at h_1
    try rw[ht] at h_1
    refine⟨⟨(k1+1,(wrap .i64 (add v1 1))),hc1_,hs1,h_1⟩,Wk.of [(0,some 0),(1,some 1)] rfl rfl ?_ ?_,a7 hc1_⟩
    ·cbv;all_goals exact⟨⟨_,rfl,rfl⟩,⟨_,rfl,rfl⟩,⟨_,rfl,rfl⟩,⟨_,rfl,rfl⟩,⟨_,rfl,rfl⟩,⟨_,rfl,rfl⟩,⟨_,rfl,rfl⟩,⟨_,rfl,rfl⟩,trivial⟩
    cbv;all_goals exact⟨⟨_,rfl,_,rfl,rfl,rfl,rfl,trivial⟩,⟨_,rfl,_,rfl,rfl,rfl,trivial⟩,trivial⟩
   rw[ab hb4] at h_1;cbv;iterate 2 try(rw[hb4];cbv)
   obtain⟨x6,hx6,h_1⟩:=ac h_1;try dsimp only at h_1
   refine ACall.mk _ _ rfl (hF _ _ _ (iN hg ht hx6)) (.inl rfl) (nb rfl) ?_;cbv;iterate 3 try(rw[hb4];cbv)
   cases hb5:(eq x6 a5)
   rotate_left
   ·rw[ab hb5] at h_1;cbv;obtain rfl:=Option.some.inj h_1;try dsimp only[lr,lrL,lrp,a9] at h
    obtain rfl:=Option.some.inj h;exact ARet.mk trivial hX.symm
   rw[aa hb5] at h_1;cbv;try rw[hg] at h_1
   try rw[ht] at h_1
   refine⟨⟨(k1+1,(wrap .i64 (add v1 1))),hc1_,hs1,h_1⟩,Wk.of [(0,some 0),(1,some 1)] rfl rfl ?_ ?_,a7 hc1_⟩
   ·cbv;all_goals exact⟨⟨_,rfl,rfl⟩,⟨_,rfl,rfl⟩,⟨_,rfl,rfl⟩,⟨_,rfl,rfl⟩,⟨_,rfl,rfl⟩,⟨_,rfl,rfl⟩,⟨_,rfl,rfl⟩,⟨_,rfl,rfl⟩,trivial⟩
   cbv;all_goals exact⟨⟨_,rfl,_,rfl,rfl,rfl,rfl,trivial⟩,⟨_,rfl,_,rfl,rfl,rfl,trivial⟩,trivial⟩
  have hb1:lt v1 (llen (r_Leg a0_Legs))=false:=dJ hg ht hi1 hc1_;rw[List.drop_of_length_le (Nat.le_of_not_lt hc1_)] at h_1;rw[cH] at h_1;try rw[←hg] at h_1
  try rw[←ht] at h_1
  try dsimp only at h_1
  rw[hb1];cbv;refine⟨(),Wk.of [(0,some 1)] rfl rfl ?_ ?_,(Option.some.inj h_1).symm⟩
  ·cbv;all_goals exact⟨⟨_,rfl,rfl⟩,trivial⟩
  cbv;all_goals exact⟨⟨_,rfl,_,rfl,rfl,rfl,trivial⟩,trivial⟩
 rintro _ hy1;replace hy1:=hy1.symm;subst hy1;try dsimp only[lr,lrL,lrp,a9] at h
 cbv;obtain rfl:=Option.some.inj h;exact ARet.mk trivial hX.symm
def ir68:J:=js [jq 4 (.box 0),jq 8 (.mv (.k (.c (.n 2)))),jm 9 kf] [1,2,3,4] (js [jl 19 3 4,jm 20 1,jm 21 2,jm 22 3,jc 23 88 [19,20,21,22],jm 10 23] [1,2,3,4,10] (.seq (js [jm 24 10,jb 25 .lss .i 24 (ki 0)] [1,2,3,4,10,25] (.cond 25 (js [jq 26 (.bsl 2 []),jm 8 26,jm 9 kf] [8,9] .ret) .skip)) (js [jl 27 3 4,jc 28 87 [27],jm 11 28] [1,2,3,4,10,11] (js [jm 29 11,jm 30 1,jc 31 89 [29,30],jm 12 31] [1,2,3,4,10,11,12] (js [jm 32 11,jm 33 2,jc 34 89 [32,33],jm 13 34] [1,3,4,10,11,12,13] (js [jm 14 (ki 0)] [1,3,4,10,11,12,13,14] (.seq (.bl 0 (.seq (js [jl 35 3 4,jm 36 1,jm 37 3,jm 38 14,jc 39 90 [35,36,37,38],jm 40 13,ja 41 1 39 40,jk 42 41,jm 43 10,jb 44 .neq .i 42 43] [1,3,4,10,11,12,13,14,44] (.cond 44 .skip (.exit 0))) (.block 1 (.reg none [jm 45 14,jb 46 .add .i 45 (ki 1),jm 14 46] [1,3,4,10,11,12,13,14])))) (js [jq 47 (.bsl 2 []),jm 15 47] [1,3,4,10,11,12,13,14,15] (.seq (js [jm 48 14,jm 16 48] [1,3,4,10,11,12,13,15,16] (.bl 2 (.seq (js [jm 49 16,jb 50 .gtr .i 49 (ki 0)] [1,3,4,10,11,12,13,15,16,50] (.cond 50 .skip (.exit 2))) (.seq (.block 3 (js [jl 53 3 4,jm 54 1,jm 55 3,jm 56 16,jb 57 .sub .i 56 (ki 1),jc 58 90 [53,54,55,57],jm 17 58] [1,3,4,10,11,12,13,15,16,17] (js [jl 59 3 4,jm 60 11,jm 61 17,jm 62 12,jm 63 13,jm 64 10,jc 65 91 [59,60,61,62,63,64],jq 18 (.alloc [.r (.v (.int .i64 0)),.r (.v (.int .i64 0))]),jp (.st 2 18 65)] [1,3,4,11,12,15,16,17,18] (js [jl 66 2 18,jq 67 (.bsl 2 [66]),jm 68 15,jq 69 (.app 2 16 false 67 68),jm 15 69] [1,3,4,11,12,15,16,17,18] (js [jm 70 11,jf 71 0 4,jk 72 71,jf 73 0 18,jk 74 73,ja 75 6 72 74,jf 76 0 75,jk 77 76,jc 78 89 [70,77],jm 13 78] [1,3,4,11,12,13,15,16,17] (.reg none [jm 79 17,jm 80 13,ja 81 1 79 80,jk 82 81,jm 10 82] [1,3,4,10,11,12,13,15,16])))))) (.reg none [jm 51 16,jb 52 .sub .i 51 (ki 1),jm 16 52] [1,3,4,10,11,12,13,15,16]))))) (js [jm 83 15,jm 8 83,jm 9 kt] [8,9] .ret))))))))))
def rv68:List RV:=[.t 8,.t 9]
def dA (g:G) (t:TE) (a0:Network) (a1:ByteArray) (a3:Int) (x2:List ByteArray) (x3:Int):Nat→Int→Int→List Trip→Int→Option (List Trip)
 |0,_,_,_,_=>none
 |n2+1,v2,v3,w1,v4=>
  br (g.lt 0 v4)
  (
   cl (aZ g t a0 a1 a3 (g.wrap .i64 (g.sub v4 1))) fun x7=>
   cl (mW g t a0 x2 x7 x3 v3 v2) fun x8=>
   lP ([x8]) fun(l3:List Trip)=>
   gd (((l3.length+w1.length)*16≤70368744177664))<|
   lP (l3++w1) fun(l4:List Trip)=>
   gd (((0:Int)≤x8.Leg))<|
   gt a0.Legs (g.nat x8.Leg) fun x9=>
   lP (cJ g t x2 x9.From) fun x10=>
   gd (((0:Int)≤x10∧x10<(((g.dlen (t.d_I64 x7)):Nat):Int)))<|
   gt x7 (g.nat x10) fun x11=>
   dA g t a0 a1 a3 x2 x3 n2 x11 x10 l4 (g.wrap .i64 (g.sub v4 1)))
  (
   some w1)
def d9 (g:G) (t:TE) (a0:Network) (a1:ByteArray) (a3:Int) (x1:Int) (x4:Int):Nat→Int→Option Int
 |0,_=>none
 |n1+1,v1=>
  cl (aZ g t a0 a1 a3 v1) fun x5=>
  gd (((0:Int)≤x4∧x4<(((g.dlen (t.d_I64 x5)):Nat):Int)))<|
  gt x5 (g.nat x4) fun x6=>
  br (g.eq x6 x1)
  (
   some v1)
  (
   d9 g t a0 a1 a3 x1 x4 n1 (g.wrap .i64 (g.add v1 1)))
def jA (g:G) (t:TE) (a0:Network) (a1:ByteArray) (a2:ByteArray) (a3:Int):Option ((List Trip)×Bool):=
 cl (gb g t a0 a1 a2 a3) fun x1=>
 br (g.lt x1 0)
 (
  lP ([]) fun(l1:List Trip)=>
  some ((l1,false)))
 (
  cl (dG g t a0) fun x2=>
  lP (cJ g t x2 a1) fun x3=>
  lP (cJ g t x2 a2) fun x4=>
  cl (d9 g t a0 a1 a3 x1 x4 1000000000 0) fun y1=>
  lP ([]) fun(l2:List Trip)=>
  cl (dA g t a0 a1 a3 x2 x3 1000000000 x1 x4 l2 y1) fun y2=>
  some ((y2,true)))
theorem uw {g:G} {t:TE} {a0:Network} {a1:ByteArray} {a2:ByteArray} {a3:Int} {r:(List Trip)×Bool} (hg:g=G.real) (ht:t=TE.real) (h:jA g t a0 a1 a2 a3=some r):Fn Tryz.prog 68 [.g (Network.rs t a0),.c (.v (.string a1)),.c (.v (.string a2)),.c (.v (.int .i64 a3))] (.u [.c (.o 2 (t.d_Trip r.1)),.c (.r (.v (.bool r.2)))]):=by
 obtain⟨X,hX⟩:=aE (.u [.c (.o 2 (t.d_Trip r.1)),.c (.r (.v (.bool r.2)))]:X);rw[←hX];refine aB (rvs:=rv68) (j:=ir68) Tryz.func68 rfl (by kernel_rfl) (nb rfl) (by kernel_rfl) af ?_;intro g2 F hg2 hF;obtain rfl:g2=g:=hg2.unique.trans hg.symm;clear hg2;obtain⟨wrap,lt,_,eq,_,_,_,_,_,_,_,_,_,add,sub,_,_,_,_,_,_,_,_,_,dlen,_,_,_,rd⟩:=g2;obtain⟨_,_,r_Leg,_,r_I64,d_I64,_,_,r_S,d_S,_,d_Trip⟩:=t
 obtain⟨a0_Legs,a0_Off,a0_Change⟩:=a0;unfold jA at h;try dsimp only at h
 cbv;obtain⟨x1,hx1,h⟩:=ac h;try dsimp only at h
 refine ACall.mk _ _ rfl (hF _ _ _ (qB hg ht hx1)) (.inl rfl) (nb rfl) ?_;cbv
 cases hb1:(lt x1 0)
 rotate_left
 ·rw[ab hb1] at h;cbv;obtain⟨l1,hl1,h⟩:=ah h;try dsimp only at h
  refine ANew.mk (d_Trip l1) (dlen (d_Trip l1)) (by rw[←hl1];exact nK hg ht []) (by rw[←hl1];exact lB hg ht []) ?_;cbv;obtain rfl:=Option.some.inj h;exact ARet.mk ⟨rfl,(ci hg ht _)⟩ hX.symm
 rw[aa hb1] at h;cbv;obtain⟨x2,hx2,h⟩:=ac h;try dsimp only at h
 refine ACall.mk _ _ rfl (hF _ _ _ (eU hg ht hx2)) (.inl rfl) (nb rfl) ?_;cbv;refine AStep.mk (en ht (al hg ht _)) ?_;cbv;obtain⟨x3,hx3,h⟩:=ah h;try dsimp only at h
 refine ACall.mk _ _ (by rw[show rd (d_S x2) 0 (dlen (d_S x2))=r_S x2 from gi hg ht (al hg ht _)];try rfl) (hF _ _ _ (dc hg ht hx3)) (.inr rfl) (nb rfl) ?_
 cbv;refine AStep.mk (en ht (al hg ht _)) ?_;cbv;obtain⟨x4,hx4,h⟩:=ah h;try dsimp only at h
 refine ACall.mk _ _ (by rw[show rd (d_S x2) 0 (dlen (d_S x2))=r_S x2 from gi hg ht (al hg ht _)];try rfl) (hF _ _ _ (dc hg ht hx4)) (.inr rfl) (nb rfl) ?_
 cbv;obtain⟨o1,ho1,h⟩:=ac h;try dsimp only at h
 try rw[hg] at ho1
 try rw[ht] at ho1
 refine ABL.mk {p:Nat×Int//d9 G.real TE.real (Network.mk a0_Legs a0_Off a0_Change) a1 a3 x1 x4 p.1 p.2=some o1} (fun⟨⟨n1,v1⟩,_⟩=>({sl:=[(1,.c (.r (.v (.string a1)))),(3,.c (.r (.v (.int .i64 a3)))),(4,.c (.p 0 3 0 0)),(10,.c (.r (.v (.int .i64 x1)))),(11,.c (.f 1 1 0 (dlen (d_S x2)))),(12,.c (.r (.v (.int .i64 x3)))),(13,.c (.r (.v (.int .i64 x4)))),(14,.c (.r (.v (.int .i64 v1))))],tab:=[(0,some (.foc 3 [] [.r (.s 6 (r_Leg a0_Legs)),.r (.s 1 (r_I64 a0_Off)),.r (.v (.int .i64 a0_Change))] [])),(1,some (.arr 1 (d_S x2)))]}:St)) 2 (fun p=>p.1.1) ⟨(1000000000,0),ho1⟩ (Int) (fun y1=>({sl:=[(1,.c (.r (.v (.string a1)))),(3,.c (.r (.v (.int .i64 a3)))),(4,.c (.p 0 3 0 0)),(10,.c (.r (.v (.int .i64 x1)))),(11,.c (.f 1 1 0 (dlen (d_S x2)))),(12,.c (.r (.v (.int .i64 x3)))),(13,.c (.r (.v (.int .i64 x4)))),(14,.c (.r (.v (.int .i64 y1))))],tab:=[(0,some (.foc 3 [] [.r (.s 6 (r_Leg a0_Legs)),.r (.s 1 (r_I64 a0_Off)),.r (.v (.int .i64 a0_Change))] [])),(1,some (.arr 1 (d_S x2)))]}:St)) 2 (fun y=>o1=y) ?_ ?_ ?_
 ·refine Wk.of [(0,some 0),(1,some 192)] rfl rfl ?_ ?_
  ·cbv;all_goals exact⟨⟨_,rfl,rfl⟩,⟨_,rfl,rfl⟩,⟨_,rfl,rfl⟩,⟨_,rfl,rfl⟩,⟨_,rfl,rfl⟩,⟨_,rfl,rfl⟩,⟨_,rfl,rfl⟩,⟨_,rfl,rfl⟩,trivial⟩
  cbv;all_goals exact⟨⟨_,rfl,_,rfl,rfl,rfl,rfl,trivial⟩,⟨_,rfl,rfl⟩,trivial⟩
 ·rintro⟨⟨n1,v1⟩,h_1⟩ hq1;try dsimp only at h_1
  clear hq1;rcases n1 with _|n1
  ·rw[d9] at h_1;cases h_1
  rw[d9] at h_1;try rw[←hg] at h_1
  try rw[←ht] at h_1
  try dsimp only at h_1
  cbv;obtain⟨x5,hx5,h_1⟩:=ac h_1;try dsimp only at h_1
  refine ACall.mk _ _ rfl (hF _ _ _ (gD hg ht hx5)) (.inl rfl) (nb rfl) ?_;cbv;obtain⟨hc1,h_1⟩:=aj h_1;refine AStep.mk hc1 ?_;cbv;obtain⟨x6,hx6,h_1⟩:=aP h_1;try dsimp only at h_1
  refine AGet.mk _ (bt hg ht hx6) ?_;cbv
  cases hb2:(eq x6 x1)
  rotate_left
  ·rw[ab hb2] at h_1;cbv;refine⟨v1,Wk.of [(0,some 0),(1,some 1)] rfl rfl ?_ ?_,(Option.some.inj h_1).symm⟩
   ·cbv;all_goals exact⟨⟨_,rfl,rfl⟩,⟨_,rfl,rfl⟩,⟨_,rfl,rfl⟩,⟨_,rfl,rfl⟩,⟨_,rfl,rfl⟩,⟨_,rfl,rfl⟩,⟨_,rfl,rfl⟩,⟨_,rfl,rfl⟩,trivial⟩
   cbv;all_goals exact⟨⟨_,rfl,_,rfl,rfl,rfl,rfl,trivial⟩,⟨_,rfl,rfl⟩,trivial⟩
  rw[aa hb2] at h_1;cbv;try rw[hg] at h_1
  try rw[ht] at h_1
  refine⟨⟨(n1,(wrap .i64 (add v1 1))),h_1⟩,Wk.of [(0,some 0),(1,some 1)] rfl rfl ?_ ?_,Nat.lt_succ_self _⟩
  ·cbv;all_goals exact⟨⟨_,rfl,rfl⟩,⟨_,rfl,rfl⟩,⟨_,rfl,rfl⟩,⟨_,rfl,rfl⟩,⟨_,rfl,rfl⟩,⟨_,rfl,rfl⟩,⟨_,rfl,rfl⟩,⟨_,rfl,rfl⟩,trivial⟩
  cbv;all_goals exact⟨⟨_,rfl,_,rfl,rfl,rfl,rfl,trivial⟩,⟨_,rfl,rfl⟩,trivial⟩
 rintro y1 hy1;replace hy1:=hy1.symm;subst hy1;try dsimp only[lr,lrL,lrp,a9] at h
 cbv;obtain⟨l2,hl2,h⟩:=ah h;try dsimp only at h
 refine ANew.mk (d_Trip l2) (dlen (d_Trip l2)) (by rw[←hl2];exact nK hg ht []) (by rw[←hl2];exact lB hg ht []) ?_;cbv;obtain⟨o2,ho2,h⟩:=ac h;try dsimp only at h
 try rw[hg] at ho2
 try rw[ht] at ho2
 refine ABL.mk {p:Nat×Int×Int×(List Trip)×Int//dA G.real TE.real (Network.mk a0_Legs a0_Off a0_Change) a1 a3 x2 x3 p.1 p.2.1 p.2.2.1 p.2.2.2.1 p.2.2.2.2=some o2} (fun⟨⟨n2,v2,v3,w1,v4⟩,_⟩=>({sl:=[(1,.c (.r (.v (.string a1)))),(3,.c (.r (.v (.int .i64 a3)))),(4,.c (.p 0 3 0 0)),(10,.c (.r (.v (.int .i64 v2)))),(11,.c (.f 1 1 0 (dlen (d_S x2)))),(12,.c (.r (.v (.int .i64 x3)))),(13,.c (.r (.v (.int .i64 v3)))),(15,.c (.f 2 2 0 (dlen (d_Trip w1)))),(16,.c (.r (.v (.int .i64 v4))))],tab:=[(0,some (.foc 3 [] [.r (.s 6 (r_Leg a0_Legs)),.r (.s 1 (r_I64 a0_Off)),.r (.v (.int .i64 a0_Change))] [])),(1,some (.arr 1 (d_S x2))),(2,some (.arr 2 (d_Trip w1)))]}:St)) 3 (fun p=>p.1.1) ⟨(1000000000,x1,x4,l2,y1),ho2⟩ (List Trip) (fun y2=>({sl:=[(15,.c (.f 0 2 0 (dlen (d_Trip y2))))],tab:=[(0,some (.arr 2 (d_Trip y2)))]}:St)) 1 (fun y=>o2=y) ?_ ?_ ?_
 ·refine Wk.of [(0,some 0),(1,some 1),(2,some 2)] rfl rfl ?_ ?_
  ·cbv;all_goals exact⟨⟨_,rfl,rfl⟩,⟨_,rfl,rfl⟩,⟨_,rfl,rfl⟩,⟨_,rfl,rfl⟩,⟨_,rfl,rfl⟩,⟨_,rfl,rfl⟩,⟨_,rfl,rfl⟩,⟨_,rfl,rfl⟩,⟨_,rfl,rfl⟩,trivial⟩
  cbv;all_goals exact⟨⟨_,rfl,_,rfl,rfl,rfl,rfl,trivial⟩,⟨_,rfl,rfl⟩,⟨_,rfl,rfl⟩,trivial⟩
 ·rintro⟨⟨n2,v2,v3,w1,v4⟩,h_2⟩ hq2;try dsimp only at h_2
  clear hq2;rcases n2 with _|n2
  ·rw[dA] at h_2;cases h_2
  rw[dA] at h_2;try rw[←hg] at h_2
  try rw[←ht] at h_2
  try dsimp only at h_2
  cbv
  cases hb3:(lt 0 v4)
  ·rw[aa hb3] at h_2;cbv;refine⟨w1,Wk.of [(0,some 2)] rfl rfl ?_ ?_,(Option.some.inj h_2).symm⟩
   ·cbv;all_goals exact⟨⟨_,rfl,rfl⟩,trivial⟩
   cbv;all_goals exact⟨⟨_,rfl,rfl⟩,trivial⟩
  rw[ab hb3] at h_2;cbv;obtain⟨x7,hx7,h_2⟩:=ac h_2;try dsimp only at h_2
  refine ACall.mk _ _ rfl (hF _ _ _ (gD hg ht hx7)) (.inl rfl) (nb rfl) ?_;cbv;refine AStep.mk ⟨(en ht (al hg ht _)),(qd ht (aq hg ht _))⟩ ?_;cbv;obtain⟨x8,hx8,h_2⟩:=ac h_2;obtain⟨x8_Leg,x8_Day⟩:=x8;try dsimp only at h_2
  refine ACall.mk _ _ (by rw[show rd (d_S x2) 0 (dlen (d_S x2))=r_S x2 from gi hg ht (al hg ht _),show rd (d_I64 x7) 0 (dlen (d_I64 x7))=r_I64 x7 from ui hg ht (aq hg ht _)];try rfl) (hF _ _ _ (xI hg ht hx8)) (.inr (by simp only[Go.Vs.X.fresh,Go.Vs.X.freshs,kg,fD,Bool.and_self,Trip.ds])) (nb rfl) ?_
  cbv;obtain⟨l3,hl3,h_2⟩:=ah h_2;try dsimp only at h_2
  refine ANew.mk (d_Trip l3) (dlen (d_Trip l3)) (by rw[←hl3];exact nK hg ht [(Trip.mk x8_Leg x8_Day)]) (by rw[←hl3];exact lB hg ht [(Trip.mk x8_Leg x8_Day)]) ?_;cbv;obtain⟨hc4,h_2⟩:=aj h_2;refine AStep.mk ⟨(tC hg ht (ci hg ht _)),(oY hg ht (ci hg ht _) (mQ hg ht (ci hg ht _)) hc4)⟩ ?_;cbv;obtain⟨l4,hl4,h_2⟩:=ah h_2;try dsimp only at h_2
  refine ANew.mk (d_Trip l4) (dlen (d_Trip l4)) (by rw[←hl4];exact vM hg ht (ci hg ht _) (mQ hg ht (ci hg ht _))) (by rw[←hl4];exact sW hg ht (ci hg ht _) (mQ hg ht (ci hg ht _))) ?_;cbv;obtain⟨hc2,h_2⟩:=aj h_2;refine AStep.mk hc2 ?_;cbv;obtain⟨x9,hx9,h_2⟩:=aP h_2;obtain⟨x9_From,x9_To,x9_Start,x9_Takes,x9_Days,x9_Room⟩:=x9;try dsimp only at h_2
  refine AGet.mk _ (bm hg ht hx9) ?_;cbv;refine AStep.mk (en ht (al hg ht _)) ?_;cbv;obtain⟨x10,hx10,h_2⟩:=ah h_2;try dsimp only at h_2
  refine ACall.mk _ _ (by rw[show rd (d_S x2) 0 (dlen (d_S x2))=r_S x2 from gi hg ht (al hg ht _)];try rfl) (hF _ _ _ (dc hg ht hx10)) (.inr rfl) (nb rfl) ?_
  cbv;obtain⟨hc3,h_2⟩:=aj h_2;refine AStep.mk hc3 ?_;cbv;obtain⟨x11,hx11,h_2⟩:=aP h_2;try dsimp only at h_2
  refine AGet.mk _ (bt hg ht hx11) ?_;cbv;try rw[hg] at h_2
  try rw[ht] at h_2
  refine⟨⟨(n2,x11,x10,l4,(wrap .i64 (sub v4 1))),h_2⟩,Wk.of [(0,some 0),(1,some 1),(2,some 339)] rfl rfl ?_ ?_,Nat.lt_succ_self _⟩
  ·cbv;all_goals exact⟨⟨_,rfl,rfl⟩,⟨_,rfl,rfl⟩,⟨_,rfl,rfl⟩,⟨_,rfl,rfl⟩,⟨_,rfl,rfl⟩,⟨_,rfl,rfl⟩,⟨_,rfl,rfl⟩,⟨_,rfl,rfl⟩,⟨_,rfl,rfl⟩,trivial⟩
  cbv;all_goals exact⟨⟨_,rfl,_,rfl,rfl,rfl,rfl,trivial⟩,⟨_,rfl,rfl⟩,⟨_,rfl,rfl⟩,trivial⟩
 rintro y2 hy2;replace hy2:=hy2.symm;subst hy2;try dsimp only[lr,lrL,lrp,a9] at h
 cbv;obtain rfl:=Option.some.inj h;exact ARet.mk ⟨rfl,(ci hg ht _)⟩ hX.symm
def F6:J:=js [jq 3 (.box 0),jm 6 kf] [1,2,3] (js [jl 7 3 3,jc 8 95 [7],jm 9 8,ju 10 9 (.ld true 3 3),ju 11 9 (.mv 1),ju 12 9 (.mv 2),ju 13 9 (.call 151 true [10,11,12]),jq 14 (.pick 9 13 kf),jm 6 14] [6] .ret)
def E0:List RV:=[.t 6]
def nB (g:G) (t:TE) (a0:Network) (a1:Int) (a2:Int):Option Bool:=
 cl (cX g t a0) fun x1=>
 br x1
 (
  cl (gJ g t a0 a1 a2) fun x2=>
  some x2)
 (
  some false)
theorem xE {g:G} {t:TE} {a0:Network} {a1:Int} {a2:Int} {r:Bool} (hg:g=G.real) (ht:t=TE.real) (h:nB g t a0 a1 a2=some r):Fn Tryz.prog 123 [.g (Network.rs t a0),.c (.v (.int .i64 a1)),.c (.v (.int .i64 a2))] (.c (.r (.v (.bool r)))):=by
 obtain⟨X,hX⟩:=aE (.c (.r (.v (.bool r))):X);rw[←hX];refine aB (rvs:=E0) (j:=F6) Tryz.func123 rfl (by kernel_rfl) (nb rfl) (by kernel_rfl) af ?_;intro g2 F hg2 hF;obtain rfl:g2=g:=hg2.unique.trans hg.symm;clear hg2;obtain⟨_⟩:=g2;obtain⟨_⟩:=t
 obtain⟨a0_Legs,a0_Off,a0_Change⟩:=a0;unfold nB at h;try dsimp only at h
 cbv;obtain⟨x1,hx1,h⟩:=ac h;try dsimp only at h
 refine ACall.mk _ _ rfl (hF _ _ _ (gI hg ht hx1)) (.inl rfl) (nb rfl) ?_;cbv
 cases hb1:x1
 ·rw[aa hb1] at h;cbv;iterate 4 try(rw[hb1];cbv)
  obtain rfl:=Option.some.inj h;exact ARet.mk trivial hX.symm
 rw[ab hb1] at h;cbv;iterate 3 try(rw[hb1];cbv)
 obtain⟨x2,hx2,h⟩:=ac h;try dsimp only at h
 refine ACall.mk _ _ rfl (hF _ _ _ (qE hg ht hx2)) (.inl rfl) (nb rfl) ?_;cbv;try(rw[hb1];cbv)
 obtain rfl:=Option.some.inj h;exact ARet.mk trivial hX.symm
def ir92:J:=js [jq 2 (.box 0),jq 3 (.box 1),jm 4 kf] [2,3] (js [jl 5 3 2,jf 6 0 3,jk 7 6,jf 8 1 3,jk 9 8,jc 10 123 [5,7,9],jm 4 10] [4] .ret)
def rv92:List RV:=[.t 4]
def fv (g:G) (t:TE) (a0:Network) (a1:Trip):Option Bool:=
 cl (nB g t a0 a1.Leg a1.Day) fun x1=>
 some x1
theorem iK {g:G} {t:TE} {a0:Network} {a1:Trip} {r:Bool} (hg:g=G.real) (ht:t=TE.real) (h:fv g t a0 a1=some r):Fn Tryz.prog 92 [.g (Network.rs t a0),.g (Trip.rs t a1)] (.c (.r (.v (.bool r)))):=by
 obtain⟨X,hX⟩:=aE (.c (.r (.v (.bool r))):X);rw[←hX];refine aB (rvs:=rv92) (j:=ir92) Tryz.func92 rfl (by kernel_rfl) (nb rfl) (by kernel_rfl) af ?_;intro g2 F hg2 hF;obtain rfl:g2=g:=hg2.unique.trans hg.symm;clear hg2;obtain⟨_⟩:=g2;obtain⟨_⟩:=t
 obtain⟨a0_Legs,a0_Off,a0_Change⟩:=a0;obtain⟨a1_Leg,a1_Day⟩:=a1;unfold fv at h;try dsimp only at h
 cbv;obtain⟨x1,hx1,h⟩:=ac h;try dsimp only at h
 refine ACall.mk _ _ rfl (hF _ _ _ (xE hg ht hx1)) (.inl rfl) (nb rfl) ?_;cbv;obtain rfl:=Option.some.inj h;exact ARet.mk trivial hX.symm
def ir69:J:=js [jq 2 (.box 0),jq 3 (.box 1),jm 4 (ki 0)] [2,3] (.seq (js [jl 5 3 2,jl 6 2 3,jc 7 92 [5,6],jq 8 (.not 7)] [2,3,8] (.cond 8 (js [jq 4 (.mv (.k (V.i (-1))))] [4] .ret) .skip)) (js [jl 9 3 2,jl 10 2 3,jc 11 93 [9,10],jm 4 11] [4] .ret))
def rv69:List RV:=[.t 4]
def gu (g:G) (t:TE) (a0:Network) (a1:Trip):Option Int:=
 cl (fv g t a0 a1) fun x1=>
 br x1
 (
  cl (dd g t a0 a1) fun x2=>
  some x2)
 (
  some (-1))
theorem mV {g:G} {t:TE} {a0:Network} {a1:Trip} {r:Int} (hg:g=G.real) (ht:t=TE.real) (h:gu g t a0 a1=some r):Fn Tryz.prog 69 [.g (Network.rs t a0),.g (Trip.rs t a1)] (.c (.r (.v (.int .i64 r)))):=by
 obtain⟨X,hX⟩:=aE (.c (.r (.v (.int .i64 r))):X);rw[←hX];refine aB (rvs:=rv69) (j:=ir69) Tryz.func69 rfl (by kernel_rfl) (nb rfl) (by kernel_rfl) af ?_;intro g2 F hg2 hF;obtain rfl:g2=g:=hg2.unique.trans hg.symm;clear hg2;obtain⟨_⟩:=g2;obtain⟨_⟩:=t
 obtain⟨a0_Legs,a0_Off,a0_Change⟩:=a0;obtain⟨a1_Leg,a1_Day⟩:=a1;unfold gu at h;try dsimp only at h
 cbv;obtain⟨x1,hx1,h⟩:=ac h;try dsimp only at h
 refine ACall.mk _ _ rfl (hF _ _ _ (iK hg ht hx1)) (.inl rfl) (nb rfl) ?_;cbv
 cases hb1:x1
 ·rw[aa hb1] at h;cbv;obtain rfl:=Option.some.inj h;exact ARet.mk trivial hX.symm
 rw[ab hb1] at h;cbv;obtain⟨x2,hx2,h⟩:=ac h;try dsimp only at h
 refine ACall.mk _ _ rfl (hF _ _ _ (g9 hg ht hx2)) (.inl rfl) (nb rfl) ?_;cbv;obtain rfl:=Option.some.inj h;exact ARet.mk trivial hX.symm
def ir70:J:=js [jq 2 (.box 0),jq 3 (.box 1),jm 4 (ki 0)] [2,3] (.seq (js [jl 5 3 2,jl 6 2 3,jc 7 92 [5,6],jq 8 (.not 7)] [2,3,8] (.cond 8 (js [jq 4 (.mv (.k (V.i (-1))))] [4] .ret) .skip)) (js [jl 9 3 2,jl 10 2 3,jc 11 94 [9,10],jm 4 11] [4] .ret))
def rv70:List RV:=[.t 4]
def jw (g:G) (t:TE) (a0:Network) (a1:Trip):Option Int:=
 cl (fv g t a0 a1) fun x1=>
 br x1
 (
  cl (eE g t a0 a1) fun x2=>
  some x2)
 (
  some (-1))
theorem qe {g:G} {t:TE} {a0:Network} {a1:Trip} {r:Int} (hg:g=G.real) (ht:t=TE.real) (h:jw g t a0 a1=some r):Fn Tryz.prog 70 [.g (Network.rs t a0),.g (Trip.rs t a1)] (.c (.r (.v (.int .i64 r)))):=by
 obtain⟨X,hX⟩:=aE (.c (.r (.v (.int .i64 r))):X);rw[←hX];refine aB (rvs:=rv70) (j:=ir70) Tryz.func70 rfl (by kernel_rfl) (nb rfl) (by kernel_rfl) af ?_;intro g2 F hg2 hF;obtain rfl:g2=g:=hg2.unique.trans hg.symm;clear hg2;obtain⟨_⟩:=g2;obtain⟨_⟩:=t
 obtain⟨a0_Legs,a0_Off,a0_Change⟩:=a0;obtain⟨a1_Leg,a1_Day⟩:=a1;unfold jw at h;try dsimp only at h
 cbv;obtain⟨x1,hx1,h⟩:=ac h;try dsimp only at h
 refine ACall.mk _ _ rfl (hF _ _ _ (iK hg ht hx1)) (.inl rfl) (nb rfl) ?_;cbv
 cases hb1:x1
 ·rw[aa hb1] at h;cbv;obtain rfl:=Option.some.inj h;exact ARet.mk trivial hX.symm
 rw[ab hb1] at h;cbv;obtain⟨x2,hx2,h⟩:=ac h;try dsimp only at h
 refine ACall.mk _ _ rfl (hF _ _ _ (iN hg ht hx2)) (.inl rfl) (nb rfl) ?_;cbv;obtain rfl:=Option.some.inj h;exact ARet.mk trivial hX.symm
def ir71:J:=js [jq 3 (.box 0),jm 6 (ki 0)] [1,2,3] (js [jm 9 2,jm 7 9] [1,3,7] (.seq (js [jl 10 3 3,jc 11 95 [10],jq 12 (.not 11)] [1,3,7,12] (.cond 12 (js [jq 6 (.mv (.k (V.i (-1))))] [6] .ret) .skip)) (.seq (js [jm 8 (ki 0)] [1,3,7,8] (.bl 0 (.seq (js [jm 13 8,jm 14 1,jq 15 (.len false 14),jb 16 .lss .i 13 15] [1,3,7,8,16] (.cond 16 .skip (.exit 0))) (.seq (.block 1 (.seq (.seq (.reg (some [[],[],[],[1,2],[1,2,3],[0,1,2,3,4],[0,1,2,3,4,5]]) [jl 19 3 3,jm 20 1,jm 21 8,ja 22 2 20 21,jl 23 2 22,jc 24 92 [19,23],jq 25 (.not 24)] [1,3,8,25]) (.cond 25 (js [jq 6 (.mv (.k (V.i (-1))))] [6] .ret) .skip)) (.reg (some [[],[],[],[1,2],[1,2,3],[0,1,2,3,4],[0,1,2,3,4,5]]) [jl 26 3 3,jm 27 1,jm 28 8,ja 29 2 27 28,jl 30 2 29,jc 31 94 [26,30],jm 7 31] [1,3,7,8]))) (.reg none [jm 17 8,jb 18 .add .i 17 (ki 1),jm 8 18] [1,3,7,8]))))) (js [jm 32 7,jm 6 32] [6] .ret))))
def rv71:List RV:=[.t 6]
def dn (g:G) (t:TE) (a0:Network):List Trip→Int→Option (LR Int Int)
 |[],v1=>
  some (LR.out v1)
 |z1::ls1,v1=>
  cl (fv g t a0 z1) fun x2=>
  br x2
  (
   cl (eE g t a0 z1) fun x3=>
   dn g t a0 ls1 x3)
  (
   some (LR.ret (-1)))
def jn (g:G) (t:TE) (a0:Network) (a1:List Trip) (a2:Int):Option Int:=
 cl (cX g t a0) fun x1=>
 br x1
 (
  cl (dn g t a0 a1 a2) fun o1=>lr o1 fun y1=>
  some y1)
 (
  some (-1))
theorem vR {g:G} {t:TE} {a0:Network} {a1:List Trip} {a2:Int} {r:Int} (hg:g=G.real) (ht:t=TE.real) (h:jn g t a0 a1 a2=some r):Fn Tryz.prog 71 [.g (Network.rs t a0),.c (.s 2 (t.r_Trip a1)),.c (.v (.int .i64 a2))] (.c (.r (.v (.int .i64 r)))):=by
 obtain⟨X,hX⟩:=aE (.c (.r (.v (.int .i64 r))):X);rw[←hX];refine aB (rvs:=rv71) (j:=ir71) Tryz.func71 rfl (by kernel_rfl) (nb rfl) (by kernel_rfl) af ?_;intro g2 F hg2 hF;obtain rfl:g2=g:=hg2.unique.trans hg.symm;clear hg2;obtain⟨wrap,lt,_,_,_,_,_,_,_,_,_,_,_,add,_,_,_,_,_,_,_,llen⟩:=g2;obtain⟨_,_,r_Leg,_,r_I64,_,_,_,_,_,r_Trip⟩:=t
 obtain⟨a0_Legs,a0_Off,a0_Change⟩:=a0;unfold jn at h;try dsimp only at h
 cbv;obtain⟨x1,hx1,h⟩:=ac h;try dsimp only at h
 refine ACall.mk _ _ rfl (hF _ _ _ (gI hg ht hx1)) (.inl rfl) (nb rfl) ?_;cbv
 cases hb1:x1
 ·rw[aa hb1] at h;cbv;obtain rfl:=Option.some.inj h;exact ARet.mk trivial hX.symm
 rw[ab hb1] at h;cbv;obtain⟨o1,ho1,h⟩:=ac h;try dsimp only at h
 try rw[hg] at ho1
 try rw[ht] at ho1
 refine ABL.mk {p:Nat×Int×Int//p.1≤a1.length∧p.2.1=((p.1:Nat):Int)∧dn G.real TE.real (Network.mk a0_Legs a0_Off a0_Change) (List.drop p.1 a1) p.2.2=some o1} (fun⟨⟨k1,v2,v1⟩,_⟩=>({sl:=[(1,.c (.r (.s 2 (r_Trip a1)))),(3,.c (.p 0 3 0 0)),(7,.c (.r (.v (.int .i64 v1)))),(8,.c (.r (.v (.int .i64 v2))))],tab:=[(0,some (.foc 3 [] [.r (.s 6 (r_Leg a0_Legs)),.r (.s 1 (r_I64 a0_Off)),.r (.v (.int .i64 a0_Change))] []))]}:St)) 1 (fun p=>a1.length-p.1.1) ⟨(0,0,a2),Nat.zero_le _,rfl,ho1⟩ (Int) (fun y1=>({sl:=[(7,.c (.r (.v (.int .i64 y1))))],tab:=[]}:St)) 0 (fun y=>o1=LR.out y) ?_ ?_ ?_
 ·refine Wk.of [(0,some 0)] rfl rfl ?_ ?_
  ·cbv;all_goals exact⟨⟨_,rfl,rfl⟩,⟨_,rfl,rfl⟩,⟨_,rfl,rfl⟩,⟨_,rfl,rfl⟩,trivial⟩
  cbv;all_goals exact⟨⟨_,rfl,_,rfl,rfl,rfl,rfl,trivial⟩,trivial⟩
 ·rintro⟨⟨k1,v2,v1⟩,hk1,hi1,h_1⟩ hq1;have hm1:=(hq1.1 1 _ _ rfl);try dsimp only at hk1 hi1 h_1
  clear hq1;cbv
  by_cases hc1_:k1<a1.length
  ·have hb2:lt v2 (llen (r_Trip a1))=true:=lS hg ht hi1 hc1_;have hs1:=rF hg ht hi1 hc1_ hm1;obtain⟨z1,hz1⟩:=aW hc1_;rw[aD hz1] at h_1;rw[dn] at h_1;obtain⟨z1_Leg,z1_Day⟩:=z1;try rw[←hg] at h_1
   try rw[←ht] at h_1
   try dsimp only at h_1
   rw[hb2];cbv;refine AStep.mk (f8 hi1) ?_;cbv;refine AGet.mk _ (kU hg ht hi1 hz1) ?_;cbv;obtain⟨x2,hx2,h_1⟩:=ac h_1;try dsimp only at h_1
   refine ACall.mk _ _ rfl (hF _ _ _ (iK hg ht hx2)) (.inl rfl) (nb rfl) ?_;cbv
   cases hb3:x2
   ·rw[aa hb3] at h_1;cbv;obtain rfl:=Option.some.inj h_1;try dsimp only[lr,lrL,lrp,a9] at h
    obtain rfl:=Option.some.inj h;exact ARet.mk trivial hX.symm
   rw[ab hb3] at h_1;cbv;refine AStep.mk (f8 hi1) ?_;cbv;refine AGet.mk _ (kU hg ht hi1 hz1) ?_;cbv;obtain⟨x3,hx3,h_1⟩:=ac h_1;try dsimp only at h_1
   refine ACall.mk _ _ rfl (hF _ _ _ (iN hg ht hx3)) (.inl rfl) (nb rfl) ?_;cbv;try rw[hg] at h_1
   try rw[ht] at h_1
   refine⟨⟨(k1+1,(wrap .i64 (add v2 1)),x3),hc1_,hs1,h_1⟩,Wk.of [(0,some 0)] rfl rfl ?_ ?_,a7 hc1_⟩
   ·cbv;all_goals exact⟨⟨_,rfl,rfl⟩,⟨_,rfl,rfl⟩,⟨_,rfl,rfl⟩,⟨_,rfl,rfl⟩,trivial⟩
   cbv;all_goals exact⟨⟨_,rfl,_,rfl,rfl,rfl,rfl,trivial⟩,trivial⟩
  have hb2:lt v2 (llen (r_Trip a1))=false:=kF hg ht hi1 hc1_;rw[List.drop_of_length_le (Nat.le_of_not_lt hc1_)] at h_1;rw[dn] at h_1;try rw[←hg] at h_1
  try rw[←ht] at h_1
  try dsimp only at h_1
  rw[hb2];cbv;refine⟨v1,Wk.of [] rfl rfl ?_ ?_,(Option.some.inj h_1).symm⟩
  ·cbv;all_goals exact⟨⟨_,rfl,rfl⟩,trivial⟩
  cbv;all_goals exact trivial
 rintro y1 hy1;replace hy1:=hy1.symm;subst hy1;try dsimp only[lr,lrL,lrp,a9] at h
 cbv;obtain rfl:=Option.some.inj h;exact ARet.mk trivial hX.symm
def ir50:J:=js [jq 4 (.box 1),jq 6 (.mv (.k (.c (.n 6))))] [0,2,4] (js [jq 16 (.bsl 6 []),jm 7 16] [0,2,4,7] (js [jm 17 0,jl 18 3 4,jq 19 (.callm 67 true 17 [18]),jm 8 19] [0,2,4,7,8] (js [jm 20 0,jl 21 3 4,jq 22 (.callm 67 true 20 [21]),jm 9 22] [0,2,4,7,8,9] (js [jm 23 0,jq 24 (.callm 15 true 23 [(ki 60)]),jb 25 .mul .i (ki 60) 24,jm 10 25] [0,2,4,7,8,9,10] (js [jl 27 3 4,jm 28 8,jm 29 9,jm 30 10,jc 31 68 [27,28,29,30],jm 26 31,jq 32 (.ext 0 26),jq 33 (.ext 1 26),jm 11 32,jm 12 33] [0,2,4,7,8,9,10,11] (js [jm 34 7,jm 35 2,jm 36 10,jm 37 8,jq 38 (.bld [.r (.v (.int .i64 0)),.r (.v (.int .i64 0)),.r (.v (.int .i64 0)),.r (.v (.string .empty)),.r (.v (.int .i64 0)),.r (.v (.int .i64 0))] [(0,1,35),(1,1,36),(2,1,(ki 1)),(3,1,37)]),jq 39 (.bsl 6 [38]),jq 40 (.app 6 56 true 34 39),jm 7 40] [0,2,4,7,9,10,11] (.seq (js [jm 13 (ki 0)] [0,2,4,7,9,10,11,13] (.bl 0 (.seq (js [jm 41 13,jm 42 11,jq 43 (.len false 42),jb 44 .lss .i 41 43] [0,2,4,7,9,10,11,13,44] (.cond 44 .skip (.exit 0))) (.seq (.block 1 (.seq (.reg (some [[],[],[],[],[],[3,4],[3,4,5],[2,3,4,5,6],[],[],[8,9],[8,9,10],[1,2,3,4,5,6,7,8,9,10,11],[1,2,3,4,5,6,7,8,9,10,11,12],[0,1,2,3,4,5,6,7,8,9,10,11,12,13],[0,1,2,3,4,5,6,7,8,9,10,11,12,13,14]]) [jm 47 7,jm 48 2,jl 49 3 4,jm 50 11,jm 51 13,ja 52 2 50 51,jl 53 2 52,jc 54 69 [49,53],jm 55 11,jm 56 13,ja 57 2 55 56,jl 58 2 57,jq 59 (.bld [.r (.v (.int .i64 0)),.r (.v (.int .i64 0)),.r (.v (.int .i64 0)),.r (.v (.string .empty)),.r (.v (.int .i64 0)),.r (.v (.int .i64 0))] [(0,1,48),(1,1,54),(2,1,(ki 3)),(4,2,58)]),jq 60 (.bsl 6 [59]),jq 61 (.app 6 56 true 47 60),jm 7 61] [0,2,4,7,9,10,11,13]) (.reg (some [[],[],[],[],[],[3,4],[3,4,5],[2,3,4,5,6],[],[],[8,9],[8,9,10],[1,2,3,4,5,6,7,8,9,10,11],[1,2,3,4,5,6,7,8,9,10,11,12],[0,1,2,3,4,5,6,7,8,9,10,11,12,13],[0,1,2,3,4,5,6,7,8,9,10,11,12,13,14]]) [jm 62 7,jm 63 2,jl 64 3 4,jm 65 11,jm 66 13,ja 67 2 65 66,jl 68 2 67,jc 69 70 [64,68],jm 70 11,jm 71 13,ja 72 2 70 71,jl 73 2 72,jq 74 (.bld [.r (.v (.int .i64 0)),.r (.v (.int .i64 0)),.r (.v (.int .i64 0)),.r (.v (.string .empty)),.r (.v (.int .i64 0)),.r (.v (.int .i64 0))] [(0,1,63),(1,1,69),(2,1,(ki 2)),(4,2,73)]),jq 75 (.bsl 6 [74]),jq 76 (.app 6 56 true 62 75),jm 7 76] [0,2,4,7,9,10,11,13]))) (.reg none [jm 45 13,jb 46 .add .i 45 (ki 1),jm 13 46] [0,2,4,7,9,10,11,13]))))) (.seq (js [jm 77 0,jq 78 (.callm 29 true 77 [(ki 2)]),jm 79 78,ju 80 79 (.mv 11),ju 81 79 (.len false 80),ju 82 79 (.bin .gtr .i 81 (ki 0)),jq 83 (.pick 79 82 kf)] [0,2,4,7,9,10,11,83] (.cond 83 (.reg none [jm 84 7,jm 85 2,jl 86 3 4,jm 87 11,jm 88 10,jc 89 71 [86,87,88],jm 90 9,jq 91 (.bld [.r (.v (.int .i64 0)),.r (.v (.int .i64 0)),
 .r (.v (.int .i64 0)),.r (.v (.string .empty)),.r (.v (.int .i64 0)),.r (.v (.int .i64 0))] [(0,1,85),(1,1,89),(2,1,(ki 4)),(3,1,90)]),jq 92 (.bsl 6 [91]),jq 93 (.app 6 56 true 84 92),jm 7 93] [0,7]) .skip)) (js [jq 94 (.bsl 6 []),jm 14 94] [0,7,14] (.seq (js [jm 15 (ki 0)] [0,7,14,15] (.bl 2 (.seq (js [jm 95 15,jm 96 7,jq 97 (.len false 96),jb 98 .lss .i 95 97] [0,7,14,15,98] (.cond 98 .skip (.exit 2))) (.seq (.block 3 (js [jm 101 0,jq 102 (.callm 29 true 101 [(ki 3)]),jq 103 (.not 102)] [0,7,14,15,103] (.cond 103 (.reg none [jm 104 14,jm 105 7,jm 106 15,ja 107 6 105 106,jl 108 6 107,jq 109 (.bsl 6 [108]),jq 110 (.app 6 56 true 104 109),jm 14 110] [0,7,14,15]) .skip))) (.reg none [jm 99 15,jb 100 .add .i 99 (ki 1),jm 15 100] [0,7,14,15]))))) (js [jm 111 14,jm 6 111] [6] .ret)))))))))))
def rv50:List RV:=[.t 6]
def cU (g:G) (t:TE) (y1:List Scan):Nat→Int→List Int→Int→Int→List Scan→Option ((List Int)×Int×Int×List Scan)
 |0,v13,v10,v11,v12,w4=>
  some (v10,v11,v12,w4)
 |n4+1,v13,v10,v11,v12,w4=>
  cl (ct g t (Cur.mk v10 v11 v12) 3) fun x14=>
  br x14.1
  (
   cU g t y1 n4 (g.wrap .i64 (g.add v13 1)) x14.2.b x14.2.i x14.2.h w4)
  (
   gt y1 (g.nat v13) fun x15=>
   lP ([(Scan.mk x15.Thing x15.At x15.Kind x15.Place (Trip.mk x15.Trip.Leg x15.Trip.Day))]) fun(l17:List Scan)=>
   gd (((w4.length+l17.length)*56≤70368744177664))<|
   lP (w4++l17) fun(l18:List Scan)=>
   cU g t y1 n4 (g.wrap .i64 (g.add v13 1)) x14.2.b x14.2.i x14.2.h l18)
def cW (g:G) (t:TE) (y1:List Scan):Nat→Int→List Int→Int→Int→List Scan→Option ((List Int)×Int×Int×List Scan)
 |0,v9,v6,v7,v8,w3=>
  some (v6,v7,v8,w3)
 |n3+1,v9,v6,v7,v8,w3=>
  cl (ct g t (Cur.mk v6 v7 v8) 3) fun x12=>
  br x12.1
  (
   cW g t y1 n3 (g.wrap .i64 (g.add v9 1)) x12.2.b x12.2.i x12.2.h w3)
  (
   gt y1 (g.nat v9) fun x13=>
   lP ([(Scan.mk x13.Thing x13.At x13.Kind x13.Place (Trip.mk x13.Trip.Leg x13.Trip.Day))]) fun(l14:List Scan)=>
   gd (((w3.length+l14.length)*56≤70368744177664))<|
   lP (w3++l14) fun(l15:List Scan)=>
   cW g t y1 n3 (g.wrap .i64 (g.add v9 1)) x12.2.b x12.2.i x12.2.h l15)
def cT (g:G) (t:TE) (l9:List Scan):Nat→Int→List Int→Int→Int→List Scan→Option ((List Int)×Int×Int×List Scan)
 |0,v5,v2,v3,v4,w2=>
  some (v2,v3,v4,w2)
 |n2+1,v5,v2,v3,v4,w2=>
  cl (ct g t (Cur.mk v2 v3 v4) 3) fun x10=>
  br x10.1
  (
   cT g t l9 n2 (g.wrap .i64 (g.add v5 1)) x10.2.b x10.2.i x10.2.h w2)
  (
   gt l9 (g.nat v5) fun x11=>
   lP ([(Scan.mk x11.Thing x11.At x11.Kind x11.Place (Trip.mk x11.Trip.Leg x11.Trip.Day))]) fun(l11:List Scan)=>
   gd (((w2.length+l11.length)*56≤70368744177664))<|
   lP (w2++l11) fun(l12:List Scan)=>
   cT g t l9 n2 (g.wrap .i64 (g.add v5 1)) x10.2.b x10.2.i x10.2.h l12)
def dB (g:G) (t:TE) (a1:Network) (a2:Int) (x4:(List Trip)×Bool):Nat→Int→List Scan→Option (List Scan)
 |0,v1,w1=>
  some w1
 |n1+1,v1,w1=>
  gt x4.1 (g.nat v1) fun x5=>
  cl (gu g t a1 x5) fun x6=>
  lP ([(Scan.mk a2 x6 3 ByteArray.empty x5)]) fun(l4:List Scan)=>
  gd (((w1.length+l4.length)*56≤70368744177664))<|
  lP (w1++l4) fun(l5:List Scan)=>
  cl (jw g t a1 x5) fun x7=>
  lP ([(Scan.mk a2 x7 2 ByteArray.empty x5)]) fun(l6:List Scan)=>
  gd (((l5.length+l6.length)*56≤70368744177664))<|
  lP (l5++l6) fun(l7:List Scan)=>
  dB g t a1 a2 x4 n1 (g.wrap .i64 (g.add v1 1)) l7
def ic (g:G) (t:TE) (a0:Cur) (a1:Network) (a2:Int):Option ((List Scan)×Cur):=
 lP ([]) fun(l1:List Scan)=>
 cl (kR g t a0 a1) fun x1=>
 cl (kR g t (Cur.mk x1.2.b x1.2.i x1.2.h) a1) fun x2=>
 cl (aG g t (Cur.mk x2.2.b x2.2.i x2.2.h) 60) fun x3=>
 cl (jA g t a1 x1.1 x2.1 (g.wrap .i64 (g.mul 60 x3.1))) fun x4=>
 lP ([(Scan.mk a2 (g.wrap .i64 (g.mul 60 x3.1)) 1 x1.1 (Trip.mk 0 0))]) fun(l2:List Scan)=>
 gd (((l1.length+l2.length)*56≤70368744177664))<|
 lP (l1++l2) fun(l3:List Scan)=>
 gd (((g.int (g.dlen (t.d_Trip x4.1)))≤9223372036854775807))<|
 cl (dB g t a1 a2 x4 (ap 0 (g.int (g.dlen (t.d_Trip x4.1)))) 0 l3) fun y1=>
 cl (ct g t (Cur.mk x3.2.b x3.2.i x3.2.h) 2) fun x8=>
 br x8.1
 (
  br (g.lt 0 (g.int (g.dlen (t.d_Trip x4.1))))
  (
   cl (jn g t a1 x4.1 (g.wrap .i64 (g.mul 60 x3.1))) fun x9=>
   lP ([(Scan.mk a2 x9 4 x2.1 (Trip.mk 0 0))]) fun(l8:List Scan)=>
   gd (((y1.length+l8.length)*56≤70368744177664))<|
   lP (y1++l8) fun(l9:List Scan)=>
   lP ([]) fun(l10:List Scan)=>
   gd (((g.int (g.dlen (t.d_Scan l9)))≤9223372036854775807))<|
   cl (cT g t l9 (ap 0 (g.int (g.dlen (t.d_Scan l9)))) 0 x8.2.b x8.2.i x8.2.h l10) fun y2=>
   some ((y2.2.2.2,(Cur.mk y2.1 y2.2.1 y2.2.2.1))))
  (
   lP ([]) fun(l13:List Scan)=>
   gd (((g.int (g.dlen (t.d_Scan y1)))≤9223372036854775807))<|
   cl (cW g t y1 (ap 0 (g.int (g.dlen (t.d_Scan y1)))) 0 x8.2.b x8.2.i x8.2.h l13) fun y3=>
   some ((y3.2.2.2,(Cur.mk y3.1 y3.2.1 y3.2.2.1)))))
 (
  lP ([]) fun(l16:List Scan)=>
  gd (((g.int (g.dlen (t.d_Scan y1)))≤9223372036854775807))<|
  cl (cU g t y1 (ap 0 (g.int (g.dlen (t.d_Scan y1)))) 0 x8.2.b x8.2.i x8.2.h l16) fun y4=>
  some ((y4.2.2.2,(Cur.mk y4.1 y4.2.1 y4.2.2.1))))
theorem pt {g:G} {t:TE} {a0:Cur} {a1:Network} {a2:Int} {r:(List Scan)×Cur} (hg:g=G.real) (ht:t=TE.real) (h:ic g t a0 a1 a2=some r):FnM Tryz.prog 50 (.p (Cur.ds t a0)) [.g (Network.rs t a1),.c (.v (.int .i64 a2))] (.c (.o 6 (t.d_Scan r.1))) (.p (Cur.ds t r.2)):=by
 obtain⟨X,hX⟩:=aE (.c (.o 6 (t.d_Scan r.1)):X);obtain⟨Y,hY⟩:=aE (.p (Cur.ds t r.2):AM);rw[←hX,←hY];refine eM (rvs:=rv50) (j:=ir50) Tryz.func50 rfl (by kernel_rfl) (nb rfl) (by kernel_rfl) af ?_;intro g2 F hg2 hF;obtain rfl:g2=g:=hg2.unique.trans hg.symm;clear hg2;obtain⟨wrap,lt,_,_,_,_,_,_,_,_,_,_,int,add,_,mul,_,_,_,_,_,_,_,_,dlen,_,_,_,rd⟩:=g2;obtain⟨r_U8,_,r_Leg,_,r_I64,_,_,d_Scan,_,_,r_Trip,d_Trip⟩:=t
 obtain⟨a0_b,a0_i,a0_h⟩:=a0;obtain⟨a1_Legs,a1_Off,a1_Change⟩:=a1;unfold ic at h;try dsimp only at h
 cbv;obtain⟨l1,hl1,h⟩:=ah h;try dsimp only at h
 refine ANew.mk (d_Scan l1) (dlen (d_Scan l1)) (by rw[←hl1];exact aN hg ht []) (by rw[←hl1];exact aC hg ht []) ?_;cbv;obtain⟨x1,hx1,h⟩:=ac h;obtain⟨x1_1,⟨x1_2_b,x1_2_i,x1_2_h⟩⟩:=x1;try dsimp only at h
 refine ACallM.mk _ _ _ _ rfl rfl (hF _ _ _ (ni hg ht hx1)) rfl (nb rfl) (nb rfl) ?_;cbv;obtain⟨x2,hx2,h⟩:=ac h;obtain⟨x2_1,⟨x2_2_b,x2_2_i,x2_2_h⟩⟩:=x2;try dsimp only at h
 refine ACallM.mk _ _ _ _ rfl rfl (hF _ _ _ (ni hg ht hx2)) rfl (nb rfl) (nb rfl) ?_;cbv;obtain⟨x3,hx3,h⟩:=ac h;obtain⟨x3_1,⟨x3_2_b,x3_2_i,x3_2_h⟩⟩:=x3;try dsimp only at h
 refine ACallM.mk _ _ _ _ rfl rfl (hF _ _ _ (ay hg ht hx3)) rfl (nb rfl) (nb rfl) ?_;cbv;obtain⟨x4,hx4,h⟩:=ac h;obtain⟨x4_1,x4_2⟩:=x4;try dsimp only at h
 refine ACall.mk _ _ rfl (hF _ _ _ (uw hg ht hx4)) (.inl rfl) (nb rfl) ?_;cbv;obtain⟨l2,hl2,h⟩:=ah h;try dsimp only at h
 refine ANew.mk (d_Scan l2) (dlen (d_Scan l2)) (by rw[←hl2];exact aN hg ht [(Scan.mk a2 (wrap .i64 (mul 60 x3_1)) 1 x1_1 (Trip.mk 0 0))]) (by rw[←hl2];exact aC hg ht [(Scan.mk a2 (wrap .i64 (mul 60 x3_1)) 1 x1_1 (Trip.mk 0 0))]) ?_;cbv;obtain⟨hc7,h⟩:=aj h;refine AStep.mk ⟨⟨rfl,(ae hg ht _)⟩,(aA hg ht (ae hg ht _) rfl hc7)⟩ ?_;cbv;obtain⟨l3,hl3,h⟩:=ah h;try dsimp only at h
 refine ANew.mk (d_Scan l3) (dlen (d_Scan l3)) (by rw[←hl3];exact ba hg ht (ae hg ht _) rfl) (by rw[←hl3];exact aT hg ht (ae hg ht _) rfl) ?_;cbv;obtain⟨hB1,h⟩:=aj h;obtain⟨o1,ho1,h⟩:=ac h;try dsimp only at h
 try rw[hg] at ho1
 try rw[ht] at ho1
 refine ABL.mk {p:Nat×Int×List Scan//p.1=ap p.2.1 (int (dlen (d_Trip x4_1)))∧0≤p.2.1∧dB G.real TE.real (Network.mk a1_Legs a1_Off a1_Change) a2 (x4_1,x4_2) p.1 p.2.1 p.2.2=some o1} (fun⟨⟨n1,v1,w1⟩,_⟩=>({sl:=[(0,.c (.p 3 3 0 0)),(2,.c (.r (.v (.int .i64 a2)))),(4,.c (.p 0 3 0 0)),(7,.c (.f 1 6 0 (dlen (d_Scan w1)))),(9,.c (.r (.v (.string x2_1)))),(10,.c (.r (.v (.int .i64 (wrap .i64 (mul 60 x3_1)))))),(11,.c (.f 2 2 0 (dlen (d_Trip x4_1)))),(13,.c (.r (.v (.int .i64 v1))))],tab:=[(0,some (.foc 3 [] [.r (.s 6 (r_Leg a1_Legs)),.r (.s 1 (r_I64 a1_Off)),.r (.v (.int .i64 a1_Change))] [])),(1,some (.arr 6 (d_Scan w1))),(2,some (.arr 2 (d_Trip x4_1))),(3,some (.foc 3 [] [.r (.s 1 (r_U8 x3_2_b)),.r (.v (.int .i64 x3_2_i)),.r (.v (.int .i64 x3_2_h))] []))]}:St)) 4 (fun p=>p.1.1) ⟨(ap 0 (int (dlen (d_Trip x4_1))),0,l3),rfl,Int.le_refl _,ho1⟩ (List Scan) (fun y1=>({sl:=[(0,.c (.p 3 3 0 0)),(2,.c (.r (.v (.int .i64 a2)))),(4,.c (.p 0 3 0 0)),(7,.c (.f 1 6 0 (dlen (d_Scan y1)))),(9,.c (.r (.v (.string x2_1)))),(10,.c (.r (.v (.int .i64 (wrap .i64 (mul 60 x3_1)))))),(11,.c (.f 2 2 0 (dlen (d_Trip x4_1))))],tab:=[(0,some (.foc 3 [] [.r (.s 6 (r_Leg a1_Legs)),.r (.s 1 (r_I64 a1_Off)),.r (.v (.int .i64 a1_Change))] [])),(1,some (.arr 6 (d_Scan y1))),(2,some (.arr 2 (d_Trip x4_1))),(3,some (.foc 3 [] [.r (.s 1 (r_U8 x3_2_b)),.r (.v (.int .i64 x3_2_i)),.r (.v (.int .i64 x3_2_h))] []))]}:St)) 4 (fun y=>o1=y) ?_ ?_ ?_
 ·refine Wk.of [(0,some 4),(1,some 516),(2,some 324),(3,some 3)] rfl rfl ?_ ?_
  ·cbv;all_goals exact⟨⟨_,rfl,rfl⟩,⟨_,rfl,rfl⟩,⟨_,rfl,rfl⟩,⟨_,rfl,rfl⟩,⟨_,rfl,rfl⟩,⟨_,rfl,rfl⟩,⟨_,rfl,rfl⟩,⟨_,rfl,rfl⟩,trivial⟩
  cbv;all_goals exact⟨⟨_,rfl,_,rfl,rfl,rfl,rfl,trivial⟩,⟨_,rfl,rfl⟩,⟨_,rfl,rfl⟩,⟨_,rfl,_,rfl,rfl,rfl,rfl,trivial⟩,trivial⟩
 ·rintro⟨⟨n1,v1,w1⟩,hn1,hi1,h_1⟩ hq1;try dsimp only at hn1 hi1 h_1
  clear hq1;cbv;rcases n1 with _|n1
  ·have hb1:lt v1 (int (dlen (d_Trip x4_1)))=false:=bc hg hn1;rw[dB] at h_1;try rw[←hg] at h_1
   try rw[←ht] at h_1
   try dsimp only at h_1
   rw[hb1];cbv;refine⟨w1,Wk.of [(0,some 0),(1,some 1),(2,some 2),(3,some 3)] rfl rfl ?_ ?_,(Option.some.inj h_1).symm⟩
   ·cbv;all_goals exact⟨⟨_,rfl,rfl⟩,⟨_,rfl,rfl⟩,⟨_,rfl,rfl⟩,⟨_,rfl,rfl⟩,⟨_,rfl,rfl⟩,⟨_,rfl,rfl⟩,⟨_,rfl,rfl⟩,trivial⟩
   cbv;all_goals exact⟨⟨_,rfl,_,rfl,rfl,rfl,rfl,trivial⟩,⟨_,rfl,rfl⟩,⟨_,rfl,rfl⟩,⟨_,rfl,_,rfl,rfl,rfl,rfl,trivial⟩,trivial⟩
  have hb1:lt v1 (int (dlen (d_Trip x4_1)))=true:=bz hg hn1;have hl1:=dj hn1;have hs1:=cr hg hn1 hi1 hB1 (by decide);rw[dB] at h_1;try rw[←hg] at h_1
  try rw[←ht] at h_1
  try dsimp only at h_1
  rw[hb1];cbv;refine AStep.mk (dV hg hi1 hl1) ?_;cbv;obtain⟨x5,hx5,h_1⟩:=aP h_1;obtain⟨x5_Leg,x5_Day⟩:=x5;try dsimp only at h_1
  refine AGet.mk _ (jT hg ht hx5) ?_;cbv;obtain⟨x6,hx6,h_1⟩:=ac h_1;try dsimp only at h_1
  refine ACall.mk _ _ rfl (hF _ _ _ (mV hg ht hx6)) (.inl rfl) (nb rfl) ?_;cbv;refine AStep.mk (dV hg hi1 hl1) ?_;cbv;refine AGet.mk _ (jT hg ht hx5) ?_;cbv;obtain⟨l4,hl4,h_1⟩:=ah h_1;try dsimp only at h_1
  refine ANew.mk (d_Scan l4) (dlen (d_Scan l4)) (by rw[←hl4];exact aN hg ht [(Scan.mk a2 x6 3 ByteArray.empty (Trip.mk x5_Leg x5_Day))]) (by rw[←hl4];exact aC hg ht [(Scan.mk a2 x6 3 ByteArray.empty (Trip.mk x5_Leg x5_Day))]) ?_;cbv;obtain⟨hc2,h_1⟩:=aj h_1;refine AStep.mk ⟨⟨rfl,(ae hg ht _)⟩,(aA hg ht (ae hg ht _) rfl hc2)⟩ ?_;cbv;obtain⟨l5,hl5,h_1⟩:=ah h_1;try dsimp only at h_1
  refine ANew.mk (d_Scan l5) (dlen (d_Scan l5)) (by rw[←hl5];exact ba hg ht (ae hg ht _) rfl) (by rw[←hl5];exact aT hg ht (ae hg ht _) rfl) ?_;cbv;refine AStep.mk (dV hg hi1 hl1) ?_;cbv;refine AGet.mk _ (jT hg ht hx5) ?_;cbv;obtain⟨x7,hx7,h_1⟩:=ac h_1;try dsimp only at h_1
  refine ACall.mk _ _ rfl (hF _ _ _ (qe hg ht hx7)) (.inl rfl) (nb rfl) ?_;cbv;refine AStep.mk (dV hg hi1 hl1) ?_;cbv;refine AGet.mk _ (jT hg ht hx5) ?_;cbv;obtain⟨l6,hl6,h_1⟩:=ah h_1;try dsimp only at h_1
  refine ANew.mk (d_Scan l6) (dlen (d_Scan l6)) (by rw[←hl6];exact aN hg ht [(Scan.mk a2 x7 2 ByteArray.empty (Trip.mk x5_Leg x5_Day))]) (by rw[←hl6];exact aC hg ht [(Scan.mk a2 x7 2 ByteArray.empty (Trip.mk x5_Leg x5_Day))]) ?_;cbv;obtain⟨hc1,h_1⟩:=aj h_1;refine AStep.mk ⟨⟨rfl,(ae hg ht _)⟩,(aA hg ht (ae hg ht _) rfl hc1)⟩ ?_;cbv;obtain⟨l7,hl7,h_1⟩:=ah h_1;try dsimp only at h_1
  refine ANew.mk (d_Scan l7) (dlen (d_Scan l7)) (by rw[←hl7];exact ba hg ht (ae hg ht _) rfl) (by rw[←hl7];exact aT hg ht (ae hg ht _) rfl) ?_;cbv;try rw[hg] at h_1
  try rw[ht] at h_1
  refine⟨⟨(n1,(wrap .i64 (add v1 1)),l7),hs1.1,hs1.2,h_1⟩,Wk.of [(0,some 0),(1,some 548),(2,some 2),(3,some 3)] rfl rfl ?_ ?_,Nat.lt_succ_self _⟩
  ·cbv;all_goals exact⟨⟨_,rfl,rfl⟩,⟨_,rfl,rfl⟩,⟨_,rfl,rfl⟩,⟨_,rfl,rfl⟩,⟨_,rfl,rfl⟩,⟨_,rfl,rfl⟩,⟨_,rfl,rfl⟩,⟨_,rfl,rfl⟩,trivial⟩
  cbv;all_goals exact⟨⟨_,rfl,_,rfl,rfl,rfl,rfl,trivial⟩,⟨_,rfl,rfl⟩,⟨_,rfl,rfl⟩,⟨_,rfl,_,rfl,rfl,rfl,rfl,trivial⟩,trivial⟩
 rintro y1 hy1;replace hy1:=hy1.symm;subst hy1;try dsimp only[lr,lrL,lrp,a9] at h
 cbv;obtain⟨x8,hx8,h⟩:=ac h;obtain⟨x8_1,⟨x8_2_b,x8_2_i,x8_2_h⟩⟩:=x8;try dsimp only at h
 refine ACallM.mk _ _ _ _ rfl rfl (hF _ _ _ (cd hg ht hx8)) rfl (nb rfl) (nb rfl) ?_;cbv;have hb2:x8_1=true∨x8_1=false:=by cases x8_1<;>simp
 rcases hb2 with hb2|hb2
 ·rw[ab hb2] at h;have hK_:=h;subst hb2;have h:=hK_;clear hK_;cbv;iterate 3 try(rw[hb2];cbv)
  cases hb3:(lt 0 (int (dlen (d_Trip x4_1))))
  ·rw[aa hb3] at h;cbv;obtain⟨l13,hl13,h⟩:=ah h;try dsimp only at h
   refine ANew.mk (d_Scan l13) (dlen (d_Scan l13)) (by rw[←hl13];exact aN hg ht []) (by rw[←hl13];exact aC hg ht []) ?_;cbv;obtain⟨hB3,h⟩:=aj h;obtain⟨o3,ho3,h⟩:=ac h;try dsimp only at h
   try rw[hg] at ho3
   try rw[ht] at ho3
   refine ABL.mk {p:Nat×Int×(List Int)×Int×Int×List Scan//p.1=ap p.2.1 (int (dlen (d_Scan y1)))∧0≤p.2.1∧cW G.real TE.real y1 p.1 p.2.1 p.2.2.1 p.2.2.2.1 p.2.2.2.2.1 p.2.2.2.2.2=some o3} (fun⟨⟨n3,v9,v6,v7,v8,w3⟩,_⟩=>({sl:=[(0,.c (.p 3 3 0 0)),(7,.c (.f 0 6 0 (dlen (d_Scan y1)))),(14,.c (.f 1 6 0 (dlen (d_Scan w3)))),(15,.c (.r (.v (.int .i64 v9))))],tab:=[(0,some (.arr 6 (d_Scan y1))),(1,some (.arr 6 (d_Scan w3))),(3,some (.foc 3 [] [.r (.s 1 (r_U8 v6)),.r (.v (.int .i64 v7)),.r (.v (.int .i64 v8))] []))]}:St)) 4 (fun p=>p.1.1) ⟨(ap 0 (int (dlen (d_Scan y1))),0,x8_2_b,x8_2_i,x8_2_h,l13),rfl,Int.le_refl _,ho3⟩ ((List Int)×Int×Int×List Scan) (fun⟨y3_1,y3_2_1,y3_2_2_1,y3_2_2_2⟩=>({sl:=[(14,.c (.f 0 6 0 (dlen (d_Scan y3_2_2_2))))],tab:=[(0,some (.arr 6 (d_Scan y3_2_2_2))),(3,some (.foc 3 [] [.r (.s 1 (r_U8 y3_1)),.r (.v (.int .i64 y3_2_1)),.r (.v (.int .i64 y3_2_2_1))] []))]}:St)) 4 (fun y=>o3=y) ?_ ?_ ?_
   ·refine Wk.of [(0,some 1),(1,some 116),(3,some 3)] rfl rfl ?_ ?_
    ·cbv;all_goals exact⟨⟨_,rfl,rfl⟩,⟨_,rfl,rfl⟩,⟨_,rfl,rfl⟩,⟨_,rfl,rfl⟩,trivial⟩
    cbv;all_goals exact⟨⟨_,rfl,rfl⟩,⟨_,rfl,rfl⟩,⟨_,rfl,_,rfl,rfl,rfl,rfl,trivial⟩,trivial⟩
   ·rintro⟨⟨n3,v9,v6,v7,v8,w3⟩,hn3,hi3,h_3⟩ hq3;try dsimp only at hn3 hi3 h_3
    clear hq3;cbv;rcases n3 with _|n3
    ·have hb6:lt v9 (int (dlen (d_Scan y1)))=false:=bc hg hn3;rw[cW] at h_3;try rw[←hg] at h_3
     try rw[←ht] at h_3
     try dsimp only at h_3
     rw[hb6];cbv;refine⟨(v6,v7,v8,w3),Wk.of [(0,some 1),(3,some 3)] rfl rfl ?_ ?_,(Option.some.inj h_3).symm⟩
     ·cbv;all_goals exact⟨⟨_,rfl,rfl⟩,trivial⟩
     cbv;all_goals exact⟨⟨_,rfl,rfl⟩,⟨_,rfl,_,rfl,rfl,rfl,rfl,trivial⟩,trivial⟩
    have hb6:lt v9 (int (dlen (d_Scan y1)))=true:=bz hg hn3;have hl3:=dj hn3;have hs3:=cr hg hn3 hi3 hB3 (by decide);rw[cW] at h_3;try rw[←hg] at h_3
    try rw[←ht] at h_3
    try dsimp only at h_3
    rw[hb6];cbv;obtain⟨x12,hx12,h_3⟩:=ac h_3;obtain⟨x12_1,⟨x12_2_b,x12_2_i,x12_2_h⟩⟩:=x12;try dsimp only at h_3
    refine ACallM.mk _ _ _ _ rfl rfl (hF _ _ _ (cd hg ht hx12)) rfl (nb rfl) (nb rfl) ?_;cbv;have hb7:x12_1=true∨x12_1=false:=by cases x12_1<;>simp
    rcases hb7 with hb7|hb7
    ·rw[ab hb7] at h_3;have hK_:=h_3;subst hb7;have h_3:=hK_;clear hK_;cbv;try rw[hg] at h_3
     try rw[ht] at h_3
     refine⟨⟨(n3,(wrap .i64 (add v9 1)),x12_2_b,x12_2_i,x12_2_h,w3),hs3.1,hs3.2,h_3⟩,Wk.of [(0,some 0),(1,some 1),(3,some 3)] rfl rfl ?_ ?_,Nat.lt_succ_self _⟩
     ·cbv;all_goals exact⟨⟨_,rfl,rfl⟩,⟨_,rfl,rfl⟩,⟨_,rfl,rfl⟩,⟨_,rfl,rfl⟩,trivial⟩
     cbv;all_goals exact⟨⟨_,rfl,rfl⟩,⟨_,rfl,rfl⟩,⟨_,rfl,_,rfl,rfl,rfl,rfl,trivial⟩,trivial⟩
    rw[aa hb7] at h_3;have hK_:=h_3;subst hb7;have h_3:=hK_;clear hK_;cbv;refine AStep.mk (dV hg hi3 hl3) ?_;cbv;obtain⟨x13,hx13,h_3⟩:=aP h_3;obtain⟨x13_Thing,x13_At,x13_Kind,x13_Place,⟨x13_Trip_Leg,x13_Trip_Day⟩⟩:=x13;try dsimp only at h_3
    refine AGet.mk _ (bo hg ht hx13) ?_;cbv;obtain⟨l14,hl14,h_3⟩:=ah h_3;try dsimp only at h_3
    refine ANew.mk (d_Scan l14) (dlen (d_Scan l14)) (by rw[←hl14];exact aN hg ht [(Scan.mk x13_Thing x13_At x13_Kind x13_Place (Trip.mk x13_Trip_Leg x13_Trip_Day))]) (by rw[←hl14];exact aC hg ht [(Scan.mk x13_Thing x13_At x13_Kind x13_Place (Trip.mk x13_Trip_Leg x13_Trip_Day))]) ?_;cbv;obtain⟨hc5,h_3⟩:=aj h_3;refine AStep.mk ⟨⟨rfl,(ae hg ht _)⟩,(aA hg ht (ae hg ht _) rfl hc5)⟩ ?_;cbv;obtain⟨l15,hl15,h_3⟩:=ah h_3;try dsimp only at h_3
    refine ANew.mk (d_Scan l15) (dlen (d_Scan l15)) (by rw[←hl15];exact ba hg ht (ae hg ht _) rfl) (by rw[←hl15];exact aT hg ht (ae hg ht _) rfl) ?_;cbv;try rw[hg] at h_3
    try rw[ht] at h_3
    refine⟨⟨(n3,(wrap .i64 (add v9 1)),x12_2_b,x12_2_i,x12_2_h,l15),hs3.1,hs3.2,h_3⟩,Wk.of [(0,some 0),(1,some 212),(3,some 3)] rfl rfl ?_ ?_,Nat.lt_succ_self _⟩
    ·cbv;all_goals exact⟨⟨_,rfl,rfl⟩,⟨_,rfl,rfl⟩,⟨_,rfl,rfl⟩,⟨_,rfl,rfl⟩,trivial⟩
    cbv;all_goals exact⟨⟨_,rfl,rfl⟩,⟨_,rfl,rfl⟩,⟨_,rfl,_,rfl,rfl,rfl,rfl,trivial⟩,trivial⟩
   rintro⟨y3_1,y3_2_1,y3_2_2_1,y3_2_2_2⟩ hy3;replace hy3:=hy3.symm;subst hy3;try dsimp only[lr,lrL,lrp,a9] at h
   cbv;obtain rfl:=Option.some.inj h;exact ARetM.mk ⟨rfl,(ae hg ht _)⟩ hX.symm hY.symm
  rw[ab hb3] at h;cbv;refine AStep.mk (zj ht (ci hg ht _)) ?_;cbv;obtain⟨x9,hx9,h⟩:=ac h;try dsimp only at h
  refine ACall.mk _ _ (by rw[show rd (d_Trip x4_1) 0 (dlen (d_Trip x4_1))=r_Trip x4_1 from B4 hg ht (ci hg ht _)];try rfl) (hF _ _ _ (vR hg ht hx9)) (.inr rfl) (nb rfl) ?_
  cbv;obtain⟨l8,hl8,h⟩:=ah h;try dsimp only at h
  refine ANew.mk (d_Scan l8) (dlen (d_Scan l8)) (by rw[←hl8];exact aN hg ht [(Scan.mk a2 x9 4 x2_1 (Trip.mk 0 0))]) (by rw[←hl8];exact aC hg ht [(Scan.mk a2 x9 4 x2_1 (Trip.mk 0 0))]) ?_;cbv;obtain⟨hc4,h⟩:=aj h;refine AStep.mk ⟨⟨rfl,(ae hg ht _)⟩,(aA hg ht (ae hg ht _) rfl hc4)⟩ ?_;cbv;obtain⟨l9,hl9,h⟩:=ah h;try dsimp only at h
  refine ANew.mk (d_Scan l9) (dlen (d_Scan l9)) (by rw[←hl9];exact ba hg ht (ae hg ht _) rfl) (by rw[←hl9];exact aT hg ht (ae hg ht _) rfl) ?_;cbv;obtain⟨l10,hl10,h⟩:=ah h;try dsimp only at h
  refine ANew.mk (d_Scan l10) (dlen (d_Scan l10)) (by rw[←hl10];exact aN hg ht []) (by rw[←hl10];exact aC hg ht []) ?_;cbv;obtain⟨hB2,h⟩:=aj h;obtain⟨o2,ho2,h⟩:=ac h;try dsimp only at h
  try rw[hg] at ho2
  try rw[ht] at ho2
  refine ABL.mk {p:Nat×Int×(List Int)×Int×Int×List Scan//p.1=ap p.2.1 (int (dlen (d_Scan l9)))∧0≤p.2.1∧cT G.real TE.real l9 p.1 p.2.1 p.2.2.1 p.2.2.2.1 p.2.2.2.2.1 p.2.2.2.2.2=some o2} (fun⟨⟨n2,v5,v2,v3,v4,w2⟩,_⟩=>({sl:=[(0,.c (.p 3 3 0 0)),(7,.c (.f 0 6 0 (dlen (d_Scan l9)))),(14,.c (.f 1 6 0 (dlen (d_Scan w2)))),(15,.c (.r (.v (.int .i64 v5))))],tab:=[(0,some (.arr 6 (d_Scan l9))),(1,some (.arr 6 (d_Scan w2))),(3,some (.foc 3 [] [.r (.s 1 (r_U8 v2)),.r (.v (.int .i64 v3)),.r (.v (.int .i64 v4))] []))]}:St)) 4 (fun p=>p.1.1) ⟨(ap 0 (int (dlen (d_Scan l9))),0,x8_2_b,x8_2_i,x8_2_h,l10),rfl,Int.le_refl _,ho2⟩ ((List Int)×Int×Int×List Scan) (fun⟨y2_1,y2_2_1,y2_2_2_1,y2_2_2_2⟩=>({sl:=[(14,.c (.f 0 6 0 (dlen (d_Scan y2_2_2_2))))],tab:=[(0,some (.arr 6 (d_Scan y2_2_2_2))),(3,some (.foc 3 [] [.r (.s 1 (r_U8 y2_1)),.r (.v (.int .i64 y2_2_1)),.r (.v (.int .i64 y2_2_2_1))] []))]}:St)) 4 (fun y=>o2=y) ?_ ?_ ?_
  ·refine Wk.of [(0,some 260),(1,some 292),(3,some 3)] rfl rfl ?_ ?_
   ·cbv;all_goals exact⟨⟨_,rfl,rfl⟩,⟨_,rfl,rfl⟩,⟨_,rfl,rfl⟩,⟨_,rfl,rfl⟩,trivial⟩
   cbv;all_goals exact⟨⟨_,rfl,rfl⟩,⟨_,rfl,rfl⟩,⟨_,rfl,_,rfl,rfl,rfl,rfl,trivial⟩,trivial⟩
  ·rintro⟨⟨n2,v5,v2,v3,v4,w2⟩,hn2,hi2,h_2⟩ hq2;try dsimp only at hn2 hi2 h_2
   clear hq2;cbv;rcases n2 with _|n2
   ·have hb4:lt v5 (int (dlen (d_Scan l9)))=false:=bc hg hn2;rw[cT] at h_2;try rw[←hg] at h_2
    try rw[←ht] at h_2
    try dsimp only at h_2
    rw[hb4];cbv;refine⟨(v2,v3,v4,w2),Wk.of [(0,some 1),(3,some 3)] rfl rfl ?_ ?_,(Option.some.inj h_2).symm⟩
    ·cbv;all_goals exact⟨⟨_,rfl,rfl⟩,trivial⟩
    cbv;all_goals exact⟨⟨_,rfl,rfl⟩,⟨_,rfl,_,rfl,rfl,rfl,rfl,trivial⟩,trivial⟩
   have hb4:lt v5 (int (dlen (d_Scan l9)))=true:=bz hg hn2;have hl2:=dj hn2;have hs2:=cr hg hn2 hi2 hB2 (by decide);rw[cT] at h_2;try rw[←hg] at h_2
   try rw[←ht] at h_2
   try dsimp only at h_2
   rw[hb4];cbv;obtain⟨x10,hx10,h_2⟩:=ac h_2;obtain⟨x10_1,⟨x10_2_b,x10_2_i,x10_2_h⟩⟩:=x10;try dsimp only at h_2
   refine ACallM.mk _ _ _ _ rfl rfl (hF _ _ _ (cd hg ht hx10)) rfl (nb rfl) (nb rfl) ?_;cbv;have hb5:x10_1=true∨x10_1=false:=by cases x10_1<;>simp
   rcases hb5 with hb5|hb5
   ·rw[ab hb5] at h_2;have hK_:=h_2;subst hb5;have h_2:=hK_;clear hK_;cbv;try rw[hg] at h_2
    try rw[ht] at h_2
    refine⟨⟨(n2,(wrap .i64 (add v5 1)),x10_2_b,x10_2_i,x10_2_h,w2),hs2.1,hs2.2,h_2⟩,Wk.of [(0,some 0),(1,some 1),(3,some 3)] rfl rfl ?_ ?_,Nat.lt_succ_self _⟩
    ·cbv;all_goals exact⟨⟨_,rfl,rfl⟩,⟨_,rfl,rfl⟩,⟨_,rfl,rfl⟩,⟨_,rfl,rfl⟩,trivial⟩
    cbv;all_goals exact⟨⟨_,rfl,rfl⟩,⟨_,rfl,rfl⟩,⟨_,rfl,_,rfl,rfl,rfl,rfl,trivial⟩,trivial⟩
   rw[aa hb5] at h_2;have hK_:=h_2;subst hb5;have h_2:=hK_;clear hK_;cbv;refine AStep.mk (dV hg hi2 hl2) ?_;cbv;obtain⟨x11,hx11,h_2⟩:=aP h_2;obtain⟨x11_Thing,x11_At,x11_Kind,x11_Place,⟨x11_Trip_Leg,x11_Trip_Day⟩⟩:=x11;try dsimp only at h_2
   refine AGet.mk _ (bo hg ht hx11) ?_;cbv;obtain⟨l11,hl11,h_2⟩:=ah h_2;try dsimp only at h_2
   refine ANew.mk (d_Scan l11) (dlen (d_Scan l11)) (by rw[←hl11];exact aN hg ht [(Scan.mk x11_Thing x11_At x11_Kind x11_Place (Trip.mk x11_Trip_Leg x11_Trip_Day))]) (by rw[←hl11];exact aC hg ht [(Scan.mk x11_Thing x11_At x11_Kind x11_Place (Trip.mk x11_Trip_Leg x11_Trip_Day))]) ?_;cbv;obtain⟨hc3,h_2⟩:=aj h_2;refine AStep.mk ⟨⟨rfl,(ae hg ht _)⟩,(aA hg ht (ae hg ht _) rfl hc3)⟩ ?_;cbv;obtain⟨l12,hl12,h_2⟩:=ah h_2;try dsimp only at h_2
   refine ANew.mk (d_Scan l12) (dlen (d_Scan l12)) (by rw[←hl12];exact ba hg ht (ae hg ht _) rfl) (by rw[←hl12];exact aT hg ht (ae hg ht _) rfl) ?_;cbv;try rw[hg] at h_2
   try rw[ht] at h_2
   refine⟨⟨(n2,(wrap .i64 (add v5 1)),x10_2_b,x10_2_i,x10_2_h,l12),hs2.1,hs2.2,h_2⟩,Wk.of [(0,some 0),(1,some 212),(3,some 3)] rfl rfl ?_ ?_,Nat.lt_succ_self _⟩
   ·cbv;all_goals exact⟨⟨_,rfl,rfl⟩,⟨_,rfl,rfl⟩,⟨_,rfl,rfl⟩,⟨_,rfl,rfl⟩,trivial⟩
   cbv;all_goals exact⟨⟨_,rfl,rfl⟩,⟨_,rfl,rfl⟩,⟨_,rfl,_,rfl,rfl,rfl,rfl,trivial⟩,trivial⟩
  rintro⟨y2_1,y2_2_1,y2_2_2_1,y2_2_2_2⟩ hy2;replace hy2:=hy2.symm;subst hy2;try dsimp only[lr,lrL,lrp,a9] at h
  cbv;obtain rfl:=Option.some.inj h;exact ARetM.mk ⟨rfl,(ae hg ht _)⟩ hX.symm hY.symm
 rw[aa hb2] at h;have hK_:=h;subst hb2;have h:=hK_;clear hK_;cbv;iterate 3 try(rw[hb2];cbv)
 obtain⟨l16,hl16,h⟩:=ah h;try dsimp only at h
 refine ANew.mk (d_Scan l16) (dlen (d_Scan l16)) (by rw[←hl16];exact aN hg ht []) (by rw[←hl16];exact aC hg ht []) ?_;cbv;obtain⟨hB4,h⟩:=aj h;obtain⟨o4,ho4,h⟩:=ac h;try dsimp only at h
 try rw[hg] at ho4
 try rw[ht] at ho4
 refine ABL.mk {p:Nat×Int×(List Int)×Int×Int×List Scan//p.1=ap p.2.1 (int (dlen (d_Scan y1)))∧0≤p.2.1∧cU G.real TE.real y1 p.1 p.2.1 p.2.2.1 p.2.2.2.1 p.2.2.2.2.1 p.2.2.2.2.2=some o4} (fun⟨⟨n4,v13,v10,v11,v12,w4⟩,_⟩=>({sl:=[(0,.c (.p 3 3 0 0)),(7,.c (.f 0 6 0 (dlen (d_Scan y1)))),(14,.c (.f 1 6 0 (dlen (d_Scan w4)))),(15,.c (.r (.v (.int .i64 v13))))],tab:=[(0,some (.arr 6 (d_Scan y1))),(1,some (.arr 6 (d_Scan w4))),(3,some (.foc 3 [] [.r (.s 1 (r_U8 v10)),.r (.v (.int .i64 v11)),.r (.v (.int .i64 v12))] []))]}:St)) 4 (fun p=>p.1.1) ⟨(ap 0 (int (dlen (d_Scan y1))),0,x8_2_b,x8_2_i,x8_2_h,l16),rfl,Int.le_refl _,ho4⟩ ((List Int)×Int×Int×List Scan) (fun⟨y4_1,y4_2_1,y4_2_2_1,y4_2_2_2⟩=>({sl:=[(14,.c (.f 0 6 0 (dlen (d_Scan y4_2_2_2))))],tab:=[(0,some (.arr 6 (d_Scan y4_2_2_2))),(3,some (.foc 3 [] [.r (.s 1 (r_U8 y4_1)),.r (.v (.int .i64 y4_2_1)),.r (.v (.int .i64 y4_2_2_1))] []))]}:St)) 4 (fun y=>o4=y) ?_ ?_ ?_
 ·refine Wk.of [(0,some 1),(1,some 116),(3,some 3)] rfl rfl ?_ ?_
  ·cbv;all_goals exact⟨⟨_,rfl,rfl⟩,⟨_,rfl,rfl⟩,⟨_,rfl,rfl⟩,⟨_,rfl,rfl⟩,trivial⟩
  cbv;all_goals exact⟨⟨_,rfl,rfl⟩,⟨_,rfl,rfl⟩,⟨_,rfl,_,rfl,rfl,rfl,rfl,trivial⟩,trivial⟩
 ·rintro⟨⟨n4,v13,v10,v11,v12,w4⟩,hn4,hi4,h_4⟩ hq4;try dsimp only at hn4 hi4 h_4
  clear hq4;cbv;rcases n4 with _|n4
  ·have hb8:lt v13 (int (dlen (d_Scan y1)))=false:=bc hg hn4;rw[cU] at h_4;try rw[←hg] at h_4
   try rw[←ht] at h_4
   try dsimp only at h_4
   rw[hb8];cbv;refine⟨(v10,v11,v12,w4),Wk.of [(0,some 1),(3,some 3)] rfl rfl ?_ ?_,(Option.some.inj h_4).symm⟩
   ·cbv;all_goals exact⟨⟨_,rfl,rfl⟩,trivial⟩
   cbv;all_goals exact⟨⟨_,rfl,rfl⟩,⟨_,rfl,_,rfl,rfl,rfl,rfl,trivial⟩,trivial⟩
  have hb8:lt v13 (int (dlen (d_Scan y1)))=true:=bz hg hn4;have hl4:=dj hn4;have hs4:=cr hg hn4 hi4 hB4 (by decide);rw[cU] at h_4;try rw[←hg] at h_4
  try rw[←ht] at h_4
  try dsimp only at h_4
  rw[hb8];cbv;obtain⟨x14,hx14,h_4⟩:=ac h_4;obtain⟨x14_1,⟨x14_2_b,x14_2_i,x14_2_h⟩⟩:=x14;try dsimp only at h_4
  refine ACallM.mk _ _ _ _ rfl rfl (hF _ _ _ (cd hg ht hx14)) rfl (nb rfl) (nb rfl) ?_;cbv;have hb9:x14_1=true∨x14_1=false:=by cases x14_1<;>simp
  rcases hb9 with hb9|hb9
  ·rw[ab hb9] at h_4;have hK_:=h_4;subst hb9;have h_4:=hK_;clear hK_;cbv;try rw[hg] at h_4
   try rw[ht] at h_4
   refine⟨⟨(n4,(wrap .i64 (add v13 1)),x14_2_b,x14_2_i,x14_2_h,w4),hs4.1,hs4.2,h_4⟩,Wk.of [(0,some 0),(1,some 1),(3,some 3)] rfl rfl ?_ ?_,Nat.lt_succ_self _⟩
   ·cbv;all_goals exact⟨⟨_,rfl,rfl⟩,⟨_,rfl,rfl⟩,⟨_,rfl,rfl⟩,⟨_,rfl,rfl⟩,trivial⟩
   cbv;all_goals exact⟨⟨_,rfl,rfl⟩,⟨_,rfl,rfl⟩,⟨_,rfl,_,rfl,rfl,rfl,rfl,trivial⟩,trivial⟩
  rw[aa hb9] at h_4;have hK_:=h_4;subst hb9;have h_4:=hK_;clear hK_;cbv;refine AStep.mk (dV hg hi4 hl4) ?_;cbv;obtain⟨x15,hx15,h_4⟩:=aP h_4;obtain⟨x15_Thing,x15_At,x15_Kind,x15_Place,⟨x15_Trip_Leg,x15_Trip_Day⟩⟩:=x15;try dsimp only at h_4
  refine AGet.mk _ (bo hg ht hx15) ?_;cbv;obtain⟨l17,hl17,h_4⟩:=ah h_4;try dsimp only at h_4
  refine ANew.mk (d_Scan l17) (dlen (d_Scan l17)) (by rw[←hl17];exact aN hg ht [(Scan.mk x15_Thing x15_At x15_Kind x15_Place (Trip.mk x15_Trip_Leg x15_Trip_Day))]) (by rw[←hl17];exact aC hg ht [(Scan.mk x15_Thing x15_At x15_Kind x15_Place (Trip.mk x15_Trip_Leg x15_Trip_Day))]) ?_;cbv;obtain⟨hc6,h_4⟩:=aj h_4;refine AStep.mk ⟨⟨rfl,(ae hg ht _)⟩,(aA hg ht (ae hg ht _) rfl hc6)⟩ ?_;cbv;obtain⟨l18,hl18,h_4⟩:=ah h_4;try dsimp only at h_4
  refine ANew.mk (d_Scan l18) (dlen (d_Scan l18)) (by rw[←hl18];exact ba hg ht (ae hg ht _) rfl) (by rw[←hl18];exact aT hg ht (ae hg ht _) rfl) ?_;cbv;try rw[hg] at h_4
  try rw[ht] at h_4
  refine⟨⟨(n4,(wrap .i64 (add v13 1)),x14_2_b,x14_2_i,x14_2_h,l18),hs4.1,hs4.2,h_4⟩,Wk.of [(0,some 0),(1,some 212),(3,some 3)] rfl rfl ?_ ?_,Nat.lt_succ_self _⟩
  ·cbv;all_goals exact⟨⟨_,rfl,rfl⟩,⟨_,rfl,rfl⟩,⟨_,rfl,rfl⟩,⟨_,rfl,rfl⟩,trivial⟩
  cbv;all_goals exact⟨⟨_,rfl,rfl⟩,⟨_,rfl,rfl⟩,⟨_,rfl,_,rfl,rfl,rfl,rfl,trivial⟩,trivial⟩
 rintro⟨y4_1,y4_2_1,y4_2_2_1,y4_2_2_2⟩ hy4;replace hy4:=hy4.symm;subst hy4;try dsimp only[lr,lrL,lrp,a9] at h
 cbv;obtain rfl:=Option.some.inj h;exact ARetM.mk ⟨rfl,(ae hg ht _)⟩ hX.symm hY.symm
def ir53:J:=js [jm 2 (ki 0)] [0] (js [jm 3 0,jq 4 (.bslr 1 [(.k (V.i (-1))),(ki 0),(ki 1),(ki 2),(ki 255),(ki 1440),(ki 86400),(ki 86401),(ki 999999999),(ki 1000000000),(ki 1000000001),(.k (V.i (-1000000001))),(ki 9223372036854775807),(.k (V.i (-9223372036854775808)))]),jq 5 (.callm 31 true 3 [4]),jm 2 5] [2] .ret)
def rv53:List RV:=[.t 2]
def lH (g:G) (t:TE) (a0:Cur):Option (Int×Cur):=
 lP ([(-1),0,1,2,255,1440,86400,86401,999999999,1000000000,1000000001,(-1000000001),9223372036854775807,(-9223372036854775808)]) fun(l1:List Int)=>
 cl (eX g t a0 l1) fun x1=>
 some ((x1.1,(Cur.mk x1.2.b x1.2.i x1.2.h)))
theorem sV {g:G} {t:TE} {a0:Cur} {r:Int×Cur} (hg:g=G.real) (ht:t=TE.real) (h:lH g t a0=some r):FnM Tryz.prog 53 (.p (Cur.ds t a0)) [] (.c (.r (.v (.int .i64 r.1)))) (.p (Cur.ds t r.2)):=by
 obtain⟨X,hX⟩:=aE (.c (.r (.v (.int .i64 r.1))):X);obtain⟨Y,hY⟩:=aE (.p (Cur.ds t r.2):AM);rw[←hX,←hY];refine eM (rvs:=rv53) (j:=ir53) Tryz.func53 rfl (by kernel_rfl) (nb rfl) (by kernel_rfl) af ?_;intro g2 F hg2 hF;obtain rfl:g2=g:=hg2.unique.trans hg.symm;clear hg2;obtain⟨_⟩:=g2;obtain⟨_,_,_,_,r_I64⟩:=t
 obtain⟨a0_b,a0_i,a0_h⟩:=a0;unfold lH at h;try dsimp only at h
 cbv;obtain⟨l1,hl1,h⟩:=ah h;try dsimp only at h
 refine AVal.mk (r_I64 l1) (by rw[←hl1];exact f6 hg ht [(-1),0,1,2,255,1440,86400,86401,999999999,1000000000,1000000001,(-1000000001),9223372036854775807,(-9223372036854775808)]) ?_;cbv;obtain⟨x1,hx1,h⟩:=ac h;obtain⟨x1_1,⟨x1_2_b,x1_2_i,x1_2_h⟩⟩:=x1;try dsimp only at h
 refine ACallM.mk _ _ _ _ rfl rfl (hF _ _ _ (eP hg ht hx1)) rfl (nb rfl) (nb rfl) ?_;cbv;obtain rfl:=Option.some.inj h;exact ARetM.mk trivial hX.symm hY.symm
def ir96:J:=js [jq 3 (.box 1),jq 4 (.alloc [.r (.v (.int .i64 0)),.r (.v (.int .i64 0))])] [0,3,4] (js [jm 7 0,jf 8 0 3,jk 9 8,jq 10 (.len false 9),jq 11 (.callm 15 true 7 [10]),jm 12 0,jq 13 (.callm 15 true 12 [(ki 10)]),jq 14 (.bld [.r (.v (.int .i64 0)),.r (.v (.int .i64 0))] [(0,1,11),(1,1,13)]),jq 5 (.alloc [.r (.v (.int .i64 0)),.r (.v (.int .i64 0))]),jp (.st 2 5 14)] [0,3,4,5] (js [jl 15 3 3,jf 16 0 5,jk 17 16,jf 18 1 5,jk 19 18,jb 20 .mul .i 19 (ki 1440),jc 21 121 [15,17,20],jm 6 21] [0,4,5,6] (.seq (js [jm 22 6,jb 23 .geq .i 22 (ki 0),jm 24 23,ju 25 24 (.mv 0),ju 26 24 (.callm 29 true 25 [(ki 4)]),ju 27 24 (.not 26),jq 28 (.pick 24 27 kf)] [4,5,6,28] (.cond 28 (.reg none [jm 29 6,jf 30 1 5,jp (.st 1 30 29)] [4,5]) .skip)) (js [jl 31 2 5,jp (.st 2 4 31)] [4] .ret))))
def rv96:List RV:=[.c 4 true 2]
def k7 (g:G) (t:TE) (a0:Cur) (a1:Network):Option (Trip×Cur):=
 cl (aG g t a0 (g.llen (t.r_Leg a1.Legs))) fun x1=>
 cl (aG g t (Cur.mk x1.2.b x1.2.i x1.2.h) 10) fun x2=>
 cl (fA g t a1 x1.1 (g.wrap .i64 (g.mul x2.1 1440))) fun x3=>
 br (g.le 0 x3)
 (
  cl (ct g t (Cur.mk x2.2.b x2.2.i x2.2.h) 4) fun x4=>
  br x4.1
  (
   some (((Trip.mk x1.1 x2.1),(Cur.mk x4.2.b x4.2.i x4.2.h))))
  (
   some (((Trip.mk x1.1 x3),(Cur.mk x4.2.b x4.2.i x4.2.h)))))
 (
  some (((Trip.mk x1.1 x2.1),(Cur.mk x2.2.b x2.2.i x2.2.h))))
theorem xz {g:G} {t:TE} {a0:Cur} {a1:Network} {r:Trip×Cur} (hg:g=G.real) (ht:t=TE.real) (h:k7 g t a0 a1=some r):FnM Tryz.prog 96 (.p (Cur.ds t a0)) [.g (Network.rs t a1)] (.g (Trip.ds t r.1)) (.p (Cur.ds t r.2)):=by
 obtain⟨X,hX⟩:=aE (.g (Trip.ds t r.1):X);obtain⟨Y,hY⟩:=aE (.p (Cur.ds t r.2):AM);rw[←hX,←hY];refine eM (rvs:=rv96) (j:=ir96) Tryz.func96 rfl (by kernel_rfl) (nb rfl) (by kernel_rfl) af ?_;intro g2 F hg2 hF;obtain rfl:g2=g:=hg2.unique.trans hg.symm;clear hg2;obtain⟨_,_,le⟩:=g2;obtain⟨_⟩:=t
 obtain⟨a0_b,a0_i,a0_h⟩:=a0;obtain⟨a1_Legs,a1_Off,a1_Change⟩:=a1;unfold k7 at h;try dsimp only at h
 cbv;obtain⟨x1,hx1,h⟩:=ac h;obtain⟨x1_1,⟨x1_2_b,x1_2_i,x1_2_h⟩⟩:=x1;try dsimp only at h
 refine ACallM.mk _ _ _ _ rfl rfl (hF _ _ _ (ay hg ht hx1)) rfl (nb rfl) (nb rfl) ?_;cbv;obtain⟨x2,hx2,h⟩:=ac h;obtain⟨x2_1,⟨x2_2_b,x2_2_i,x2_2_h⟩⟩:=x2;try dsimp only at h
 refine ACallM.mk _ _ _ _ rfl rfl (hF _ _ _ (ay hg ht hx2)) rfl (nb rfl) (nb rfl) ?_;cbv;obtain⟨x3,hx3,h⟩:=ac h;try dsimp only at h
 refine ACall.mk _ _ rfl (hF _ _ _ (mH hg ht hx3)) (.inl rfl) (nb rfl) ?_;cbv
 cases hb1:(le 0 x3)
 ·rw[aa hb1] at h;cbv;iterate 3 try(rw[hb1];cbv)
  obtain rfl:=Option.some.inj h;exact ARetM.mk trivial hX.symm hY.symm
 rw[ab hb1] at h;cbv;try(rw[hb1];cbv)
 obtain⟨x4,hx4,h⟩:=ac h;obtain⟨x4_1,⟨x4_2_b,x4_2_i,x4_2_h⟩⟩:=x4;try dsimp only at h
 refine ACallM.mk _ _ _ _ rfl rfl (hF _ _ _ (cd hg ht hx4)) rfl (nb rfl) (nb rfl) ?_;cbv;iterate 2 try(rw[hb1];cbv)
 have hb2:x4_1=true∨x4_1=false:=by cases x4_1<;>simp
 rcases hb2 with hb2|hb2
 ·rw[ab hb2] at h;have hK_:=h;subst hb2;have h:=hK_;clear hK_;cbv;obtain rfl:=Option.some.inj h;exact ARetM.mk trivial hX.symm hY.symm
 rw[aa hb2] at h;have hK_:=h;subst hb2;have h:=hK_;clear hK_;cbv;obtain rfl:=Option.some.inj h;exact ARetM.mk trivial hX.symm hY.symm
def ir97:J:=js [jm 2 (ki 0)] [0] (js [jm 3 0,jc 4 30 [3,(ki 0)],jm 2 4] [2] .ret)
def rv97:List RV:=[.t 2]
def nQ (g:G) (t:TE) (a0:Int):Int:=
 lP (qc g t a0 0) fun x1=>
 x1
theorem rv {g:G} {t:TE} {a0:Int} {r:Int} (hg:g=G.real) (ht:t=TE.real) (h:nQ g t a0=r):Fn Tryz.prog 97 [.c (.v (.int .i64 a0))] (.c (.r (.v (.int .i64 r)))):=by
 obtain⟨X,hX⟩:=aE (.c (.r (.v (.int .i64 r))):X);rw[←hX];refine aB (rvs:=rv97) (j:=ir97) Tryz.func97 rfl (by kernel_rfl) (nb rfl) (by kernel_rfl) af ?_;intro g2 F hg2 hF;obtain rfl:g2=g:=hg2.unique.trans hg.symm;clear hg2;obtain⟨_⟩:=g2;obtain⟨_⟩:=t
 unfold nQ at h;try dsimp only at h
 cbv;obtain⟨x1,hx1,h⟩:=ah h;try dsimp only at h
 refine ACall.mk _ _ rfl (hF _ _ _ (uv hg ht hx1)) (.inl rfl) (nb rfl) ?_;cbv;subst h;exact ARet.mk trivial hX.symm
def ir72:J:=js [jq 3 (.box 1),jq 4 (.alloc [.r (.v (.int .i64 0)),.r (.v (.int .i64 0)),.r (.v (.int .i64 0)),.r (.v (.string .empty)),.r (.v (.int .i64 0)),.r (.v (.int .i64 0))])] [0,3,4] (.seq (.reg (some [[],[0],[0,1],[],[0,1,3],[0,1,3,4],[],[0,1,3,4,6],[0,1,3,4,6,7],[],[],[0,1,3,4,6,7,9,10],[0,1,2,3,4,5,6,7,8,9,10,11],[],[0,1,2,3,4,5,6,7,8,9,10,11,12,13]]) [jm 6 0,jq 7 (.callm 15 true 6 [(ki 3)]),jb 8 .add .i (ki 1) 7,jm 9 0,jq 10 (.callm 15 true 9 [(ki 120)]),jb 11 .mul .i (ki 60) 10,jm 12 0,jq 13 (.callm 15 true 12 [(ki 4)]),jb 14 .add .i (ki 1) 13,jm 15 0,jl 16 3 3,jq 17 (.callm 96 true 15 [16]),jq 18 (.bld [.r (.v (.int .i64 0)),.r (.v (.int .i64 0)),.r (.v (.int .i64 0)),.r (.v (.string .empty)),.r (.v (.int .i64 0)),.r (.v (.int .i64 0))] [(0,1,8),(1,1,11),(2,1,14),(4,2,17)]),jq 5 (.alloc [.r (.v (.int .i64 0)),.r (.v (.int .i64 0)),.r (.v (.int .i64 0)),.r (.v (.string .empty)),.r (.v (.int .i64 0)),.r (.v (.int .i64 0))]),jp (.st 6 5 18)] [0,3,4,5]) (.seq (js [jf 19 2 5,jk 20 19] [0,3,4,5,20] (.block 0 (.seq (js [jb 32 .eql .i 20 (ki 1),jm 31 32] [0,3,4,5,20,31] (.cond 31 .skip (.reg none [jb 33 .eql .i 20 (ki 4),jm 31 33] [0,3,4,5,20,31]))) (.cond 31 (js [jq 34 (.bld [.r (.v (.int .i64 0)),.r (.v (.int .i64 0))] []),jf 35 4 5,jp (.st 2 35 34)] [0,3,4,5] (.reg none [jm 36 0,jl 37 3 3,jq 38 (.callm 67 true 36 [37]),jf 39 3 5,jp (.st 1 39 38)] [4,5])) (js [jb 41 .eql .i 20 (ki 3),jm 40 41] [0,3,4,5,40] (.cond 40 (.reg none [jl 42 3 3,jf 43 4 5,jl 44 2 43,jc 45 69 [42,44],jm 46 0,jq 47 (.bslr 1 [(ki 0),(ki 0),(ki 30),(ki 600)]),jq 48 (.callm 31 true 46 [47]),jb 49 .sub .i 45 48,jc 50 97 [49],jf 51 1 5,jp (.st 1 51 50)] [4,5]) (.reg none [jl 21 3 3,jf 22 4 5,jl 23 2 22,jc 24 70 [21,23],jm 25 0,jq 26 (.bslr 1 [(ki 0),(ki 0),(ki 30),(ki 600)]),jq 27 (.callm 31 true 25 [26]),jb 28 .add .i 24 27,jc 29 97 [28],jf 30 1 5,jp (.st 1 30 29)] [4,5]))))))) (js [jl 52 6 5,jp (.st 6 4 52)] [4] .ret)))
def rv72:List RV:=[.c 4 true 6]
def kw (g:G) (t:TE) (a0:Cur) (a1:Network):Option (Scan×Cur):=
 cl (aG g t a0 3) fun x1=>
 cl (aG g t (Cur.mk x1.2.b x1.2.i x1.2.h) 120) fun x2=>
 cl (aG g t (Cur.mk x2.2.b x2.2.i x2.2.h) 4) fun x3=>
 cl (k7 g t (Cur.mk x3.2.b x3.2.i x3.2.h) a1) fun x4=>
 br (g.eq (g.wrap .i64 (g.add 1 x3.1)) 1)
 (
  cl (kR g t (Cur.mk x4.2.b x4.2.i x4.2.h) a1) fun x5=>
  some (((Scan.mk (g.wrap .i64 (g.add 1 x1.1)) (g.wrap .i64 (g.mul 60 x2.1)) (g.wrap .i64 (g.add 1 x3.1)) x5.1 (Trip.mk 0 0)),(Cur.mk x5.2.b x5.2.i x5.2.h))))
 (
  br (g.eq (g.wrap .i64 (g.add 1 x3.1)) 4)
  (
   cl (kR g t (Cur.mk x4.2.b x4.2.i x4.2.h) a1) fun x6=>
   some (((Scan.mk (g.wrap .i64 (g.add 1 x1.1)) (g.wrap .i64 (g.mul 60 x2.1)) (g.wrap .i64 (g.add 1 x3.1)) x6.1 (Trip.mk 0 0)),(Cur.mk x6.2.b x6.2.i x6.2.h))))
  (
   br (g.eq (g.wrap .i64 (g.add 1 x3.1)) 3)
   (
    cl (gu g t a1 (Trip.mk x4.1.Leg x4.1.Day)) fun x7=>
    lP ([0,0,30,600]) fun(l1:List Int)=>
    cl (eX g t (Cur.mk x4.2.b x4.2.i x4.2.h) l1) fun x8=>
    lP (nQ g t (g.wrap .i64 (g.sub x7 x8.1))) fun x9=>
    some (((Scan.mk (g.wrap .i64 (g.add 1 x1.1)) x9 (g.wrap .i64 (g.add 1 x3.1)) ByteArray.empty (Trip.mk x4.1.Leg x4.1.Day)),(Cur.mk x8.2.b x8.2.i x8.2.h))))
   (
    cl (jw g t a1 (Trip.mk x4.1.Leg x4.1.Day)) fun x10=>
    lP ([0,0,30,600]) fun(l2:List Int)=>
    cl (eX g t (Cur.mk x4.2.b x4.2.i x4.2.h) l2) fun x11=>
    lP (nQ g t (g.wrap .i64 (g.add x10 x11.1))) fun x12=>
    some (((Scan.mk (g.wrap .i64 (g.add 1 x1.1)) x12 (g.wrap .i64 (g.add 1 x3.1)) ByteArray.empty (Trip.mk x4.1.Leg x4.1.Day)),(Cur.mk x11.2.b x11.2.i x11.2.h))))))
theorem xM {g:G} {t:TE} {a0:Cur} {a1:Network} {r:Scan×Cur} (hg:g=G.real) (ht:t=TE.real) (h:kw g t a0 a1=some r):FnM Tryz.prog 72 (.p (Cur.ds t a0)) [.g (Network.rs t a1)] (.g (Scan.ds t r.1)) (.p (Cur.ds t r.2)):=by
 obtain⟨X,hX⟩:=aE (.g (Scan.ds t r.1):X);obtain⟨Y,hY⟩:=aE (.p (Cur.ds t r.2):AM);rw[←hX,←hY];refine eM (rvs:=rv72) (j:=ir72) Tryz.func72 rfl (by kernel_rfl) (nb rfl) (by kernel_rfl) af ?_;intro g2 F hg2 hF;obtain rfl:g2=g:=hg2.unique.trans hg.symm;clear hg2;obtain⟨wrap,_,_,eq,_,_,_,_,_,_,_,_,_,add⟩:=g2;obtain⟨_,_,_,_,r_I64⟩:=t
 obtain⟨a0_b,a0_i,a0_h⟩:=a0;obtain⟨a1_Legs,a1_Off,a1_Change⟩:=a1;unfold kw at h;try dsimp only at h
 cbv;obtain⟨x1,hx1,h⟩:=ac h;obtain⟨x1_1,⟨x1_2_b,x1_2_i,x1_2_h⟩⟩:=x1;try dsimp only at h
 refine ACallM.mk _ _ _ _ rfl rfl (hF _ _ _ (ay hg ht hx1)) rfl (nb rfl) (nb rfl) ?_;cbv;obtain⟨x2,hx2,h⟩:=ac h;obtain⟨x2_1,⟨x2_2_b,x2_2_i,x2_2_h⟩⟩:=x2;try dsimp only at h
 refine ACallM.mk _ _ _ _ rfl rfl (hF _ _ _ (ay hg ht hx2)) rfl (nb rfl) (nb rfl) ?_;cbv;obtain⟨x3,hx3,h⟩:=ac h;obtain⟨x3_1,⟨x3_2_b,x3_2_i,x3_2_h⟩⟩:=x3;try dsimp only at h
 refine ACallM.mk _ _ _ _ rfl rfl (hF _ _ _ (ay hg ht hx3)) rfl (nb rfl) (nb rfl) ?_;cbv;obtain⟨x4,hx4,h⟩:=ac h;obtain⟨⟨x4_1_Leg,x4_1_Day⟩,⟨x4_2_b,x4_2_i,x4_2_h⟩⟩:=x4;try dsimp only at h
 refine ACallM.mk _ _ _ _ rfl rfl (hF _ _ _ (xz hg ht hx4)) rfl (nb rfl) (nb rfl) ?_;cbv
 cases hb1:(eq (wrap .i64 (add 1 x3_1)) 1)
 rotate_left
 ·rw[ab hb1] at h;cbv;try(rw[hb1];cbv)
  obtain⟨x5,hx5,h⟩:=ac h;obtain⟨x5_1,⟨x5_2_b,x5_2_i,x5_2_h⟩⟩:=x5;try dsimp only at h
  refine ACallM.mk _ _ _ _ rfl rfl (hF _ _ _ (ni hg ht hx5)) rfl (nb rfl) (nb rfl) ?_;cbv;obtain rfl:=Option.some.inj h;exact ARetM.mk trivial hX.symm hY.symm
 rw[aa hb1] at h;cbv
 cases hb2:(eq (wrap .i64 (add 1 x3_1)) 4)
 rotate_left
 ·rw[ab hb2] at h;cbv;obtain⟨x6,hx6,h⟩:=ac h;obtain⟨x6_1,⟨x6_2_b,x6_2_i,x6_2_h⟩⟩:=x6;try dsimp only at h
  refine ACallM.mk _ _ _ _ rfl rfl (hF _ _ _ (ni hg ht hx6)) rfl (nb rfl) (nb rfl) ?_;cbv;obtain rfl:=Option.some.inj h;exact ARetM.mk trivial hX.symm hY.symm
 rw[aa hb2] at h;cbv
 cases hb3:(eq (wrap .i64 (add 1 x3_1)) 3)
 rotate_left
 ·rw[ab hb3] at h;cbv;obtain⟨x7,hx7,h⟩:=ac h;try dsimp only at h
  refine ACall.mk _ _ rfl (hF _ _ _ (mV hg ht hx7)) (.inl rfl) (nb rfl) ?_;cbv;obtain⟨l1,hl1,h⟩:=ah h;try dsimp only at h
  refine AVal.mk (r_I64 l1) (by rw[←hl1];exact f6 hg ht [0,0,30,600]) ?_;cbv;obtain⟨x8,hx8,h⟩:=ac h;obtain⟨x8_1,⟨x8_2_b,x8_2_i,x8_2_h⟩⟩:=x8;try dsimp only at h
  refine ACallM.mk _ _ _ _ rfl rfl (hF _ _ _ (eP hg ht hx8)) rfl (nb rfl) (nb rfl) ?_;cbv;obtain⟨x9,hx9,h⟩:=ah h;try dsimp only at h
  refine ACall.mk _ _ rfl (hF _ _ _ (rv hg ht hx9)) (.inl rfl) (nb rfl) ?_;cbv;obtain rfl:=Option.some.inj h;exact ARetM.mk trivial hX.symm hY.symm
 rw[aa hb3] at h;cbv;obtain⟨x10,hx10,h⟩:=ac h;try dsimp only at h
 refine ACall.mk _ _ rfl (hF _ _ _ (qe hg ht hx10)) (.inl rfl) (nb rfl) ?_;cbv;obtain⟨l2,hl2,h⟩:=ah h;try dsimp only at h
 refine AVal.mk (r_I64 l2) (by rw[←hl2];exact f6 hg ht [0,0,30,600]) ?_;cbv;obtain⟨x11,hx11,h⟩:=ac h;obtain⟨x11_1,⟨x11_2_b,x11_2_i,x11_2_h⟩⟩:=x11;try dsimp only at h
 refine ACallM.mk _ _ _ _ rfl rfl (hF _ _ _ (eP hg ht hx11)) rfl (nb rfl) (nb rfl) ?_;cbv;obtain⟨x12,hx12,h⟩:=ah h;try dsimp only at h
 refine ACall.mk _ _ rfl (hF _ _ _ (rv hg ht hx12)) (.inl rfl) (nb rfl) ?_;cbv;obtain rfl:=Option.some.inj h;exact ARetM.mk trivial hX.symm hY.symm
def ir51 (s_k0 s_k1 s_k8:ByteArray):J:=js [jq 3 (.box 1),jq 4 (.alloc [.r (.v (.int .i64 0)),.r (.v (.int .i64 0)),.r (.v (.int .i64 0)),.r (.v (.string .empty)),.r (.v (.int .i64 0)),.r (.v (.int .i64 0))])] [0,3,4] (js [jm 6 0,jl 7 3 3,jq 8 (.callm 72 true 6 [7]),jq 5 (.alloc [.r (.v (.int .i64 0)),.r (.v (.int .i64 0)),.r (.v (.int .i64 0)),.r (.v (.string .empty)),.r (.v (.int .i64 0)),.r (.v (.int .i64 0))]),jp (.st 6 5 8)] [0,4,5] (.seq (js [jm 9 0,jq 10 (.callm 15 true 9 [(ki 9)])] [0,4,5,10] (.block 0 (js [jb 12 .eql .i 10 (ki 0),jm 11 12] [0,4,5,10,11] (.cond 11 (.reg none [jm 13 0,jq 14 (.bslr 1 [(ki 0),(ki 9999),(ki 10000)]),jq 15 (.callm 31 true 13 [14]),jf 16 0 5,jp (.st 1 16 15)] [4,5]) (js [jb 18 .eql .i 10 (ki 1),jm 17 18] [0,4,5,10,17] (.cond 17 (.reg none [jm 19 0,jq 20 (.callm 53 true 19 []),jf 21 1 5,jp (.st 1 21 20)] [4,5]) (js [jb 23 .eql .i 10 (ki 2),jm 22 23] [0,4,5,10,22] (.cond 22 (.reg none [jm 24 0,jq 25 (.callm 15 true 24 [(ki 6)]),jf 26 2 5,jp (.st 1 26 25)] [4,5]) (js [jb 28 .eql .i 10 (ki 3),jm 27 28] [0,4,5,10,27] (.cond 27 (.reg none [jm 29 0,jq 30 (.bslr 1 [(.k (.c (.r (.v (.string s_k0))))),(.k (.c (.r (.v (.string s_k1))))),(.k (.c (.r (.v (.string s_k8)))))]),jq 31 (.callm 66 true 29 [30]),jf 32 3 5,jp (.st 1 32 31)] [4,5]) (js [jb 34 .eql .i 10 (ki 4),jm 33 34] [0,4,5,10,33] (.cond 33 (.reg none [jm 35 0,jq 36 (.bslr 1 [(ki 0),(ki 1),(ki 60),(ki 61),(.k (V.i (-1)))]),jq 37 (.callm 31 true 35 [36]),jf 38 4 5,jf 39 1 38,jp (.st 1 39 37)] [4,5]) (js [jb 41 .eql .i 10 (ki 5),jm 40 41] [0,4,5,40] (.cond 40 (.reg (some [[],[0],[],[],[2,3],[0,1,2,3,4],[0,1,2,3,4,5],[0,1,2,3,4,5,6]]) [jf 42 1 5,jk 43 42,jm 44 0,jq 45 (.bslr 1 [(.k (V.i (-1))),(ki 1)]),jq 46 (.callm 31 true 44 [45]),jb 47 .add .i 43 46,jf 48 1 5,jp (.st 1 48 47)] [4,5]) .skip)))))))))))))) (js [jl 49 6 5,jp (.st 6 4 49)] [4] .ret)))
def rv51:List RV:=[.c 4 true 6]
def gR (g:G) (t:TE) (a0:Cur) (a1:Network):Option (Scan×Cur):=
 cl (kw g t a0 a1) fun x1=>
 cl (aG g t (Cur.mk x1.2.b x1.2.i x1.2.h) 9) fun x2=>
 br (g.eq x2.1 0)
 (
  lP ([0,9999,10000]) fun(l1:List Int)=>
  cl (eX g t (Cur.mk x2.2.b x2.2.i x2.2.h) l1) fun x3=>
  some (((Scan.mk x3.1 x1.1.At x1.1.Kind x1.1.Place (Trip.mk x1.1.Trip.Leg x1.1.Trip.Day)),(Cur.mk x3.2.b x3.2.i x3.2.h))))
 (
  br (g.eq x2.1 1)
  (
   cl (lH g t (Cur.mk x2.2.b x2.2.i x2.2.h)) fun x4=>
   some (((Scan.mk x1.1.Thing x4.1 x1.1.Kind x1.1.Place (Trip.mk x1.1.Trip.Leg x1.1.Trip.Day)),(Cur.mk x4.2.b x4.2.i x4.2.h))))
  (
   br (g.eq x2.1 2)
   (
    cl (aG g t (Cur.mk x2.2.b x2.2.i x2.2.h) 6) fun x5=>
    some (((Scan.mk x1.1.Thing x1.1.At x5.1 x1.1.Place (Trip.mk x1.1.Trip.Leg x1.1.Trip.Day)),(Cur.mk x5.2.b x5.2.i x5.2.h))))
   (
    br (g.eq x2.1 3)
    (
     lP ([str_k0,iG,wX]) fun(l2:List ByteArray)=>
     cl (jZ g t (Cur.mk x2.2.b x2.2.i x2.2.h) l2) fun x6=>
     some (((Scan.mk x1.1.Thing x1.1.At x1.1.Kind x6.1 (Trip.mk x1.1.Trip.Leg x1.1.Trip.Day)),(Cur.mk x6.2.b x6.2.i x6.2.h))))
    (
     br (g.eq x2.1 4)
     (
      lP ([0,1,60,61,(-1)]) fun(l3:List Int)=>
      cl (eX g t (Cur.mk x2.2.b x2.2.i x2.2.h) l3) fun x7=>
      some (((Scan.mk x1.1.Thing x1.1.At x1.1.Kind x1.1.Place (Trip.mk x1.1.Trip.Leg x7.1)),(Cur.mk x7.2.b x7.2.i x7.2.h))))
     (
      br (g.eq x2.1 5)
      (
       lP ([(-1),1]) fun(l4:List Int)=>
       cl (eX g t (Cur.mk x2.2.b x2.2.i x2.2.h) l4) fun x8=>
       some (((Scan.mk x1.1.Thing (g.wrap .i64 (g.add x1.1.At x8.1)) x1.1.Kind x1.1.Place (Trip.mk x1.1.Trip.Leg x1.1.Trip.Day)),(Cur.mk x8.2.b x8.2.i x8.2.h))))
      (
       some (((Scan.mk x1.1.Thing x1.1.At x1.1.Kind x1.1.Place (Trip.mk x1.1.Trip.Leg x1.1.Trip.Day)),(Cur.mk x2.2.b x2.2.i x2.2.h)))))))))
theorem rO {g:G} {t:TE} {a0:Cur} {a1:Network} {r:Scan×Cur} (hg:g=G.real) (ht:t=TE.real) (h:gR g t a0 a1=some r):FnM Tryz.prog 51 (.p (Cur.ds t a0)) [.g (Network.rs t a1)] (.g (Scan.ds t r.1)) (.p (Cur.ds t r.2)):=by
 obtain⟨X,hX⟩:=aE (.g (Scan.ds t r.1):X);obtain⟨Y,hY⟩:=aE (.p (Cur.ds t r.2):AM);rw[←hX,←hY];refine eM (rvs:=rv51) (j:=(ir51 str_k0 iG wX)) Tryz.func51 rfl (by kernel_rfl) (nb rfl) (by kernel_rfl) af ?_;intro g2 F hg2 hF;obtain rfl:g2=g:=hg2.unique.trans hg.symm;clear hg2;obtain⟨_,_,_,eq⟩:=g2;obtain⟨_,_,_,_,r_I64,_,_,_,r_S⟩:=t
 obtain⟨a0_b,a0_i,a0_h⟩:=a0;obtain⟨a1_Legs,a1_Off,a1_Change⟩:=a1;unfold gR at h;try dsimp only at h
 obtain⟨s_k0,hs_k0⟩:∃s,str_k0=s:=⟨_,rfl⟩;try rw[hs_k0] at h
 rw[hs_k0];obtain⟨s_k1,hs_k1⟩:∃s,iG=s:=⟨_,rfl⟩;try rw[hs_k1] at h
 rw[hs_k1];obtain⟨s_k8,hs_k8⟩:∃s,wX=s:=⟨_,rfl⟩;try rw[hs_k8] at h
 rw[hs_k8];cbv;obtain⟨x1,hx1,h⟩:=ac h;obtain⟨⟨x1_1_Thing,x1_1_At,x1_1_Kind,x1_1_Place,⟨x1_1_Trip_Leg,x1_1_Trip_Day⟩⟩,⟨x1_2_b,x1_2_i,x1_2_h⟩⟩:=x1;try dsimp only at h
 refine ACallM.mk _ _ _ _ rfl rfl (hF _ _ _ (xM hg ht hx1)) rfl (nb rfl) (nb rfl) ?_;cbv;obtain⟨x2,hx2,h⟩:=ac h;obtain⟨x2_1,⟨x2_2_b,x2_2_i,x2_2_h⟩⟩:=x2;try dsimp only at h
 refine ACallM.mk _ _ _ _ rfl rfl (hF _ _ _ (ay hg ht hx2)) rfl (nb rfl) (nb rfl) ?_;cbv
 cases hb1:(eq x2_1 0)
 rotate_left
 ·rw[ab hb1] at h;cbv;obtain⟨l1,hl1,h⟩:=ah h;try dsimp only at h
  refine AVal.mk (r_I64 l1) (by rw[←hl1];exact f6 hg ht [0,9999,10000]) ?_;cbv;obtain⟨x3,hx3,h⟩:=ac h;obtain⟨x3_1,⟨x3_2_b,x3_2_i,x3_2_h⟩⟩:=x3;try dsimp only at h
  refine ACallM.mk _ _ _ _ rfl rfl (hF _ _ _ (eP hg ht hx3)) rfl (nb rfl) (nb rfl) ?_;cbv;obtain rfl:=Option.some.inj h;exact ARetM.mk trivial hX.symm hY.symm
 rw[aa hb1] at h;cbv
 cases hb2:(eq x2_1 1)
 rotate_left
 ·rw[ab hb2] at h;cbv;obtain⟨x4,hx4,h⟩:=ac h;obtain⟨x4_1,⟨x4_2_b,x4_2_i,x4_2_h⟩⟩:=x4;try dsimp only at h
  refine ACallM.mk _ _ _ _ rfl rfl (hF _ _ _ (sV hg ht hx4)) rfl (nb rfl) (nb rfl) ?_;cbv;obtain rfl:=Option.some.inj h;exact ARetM.mk trivial hX.symm hY.symm
 rw[aa hb2] at h;cbv
 cases hb3:(eq x2_1 2)
 rotate_left
 ·rw[ab hb3] at h;cbv;obtain⟨x5,hx5,h⟩:=ac h;obtain⟨x5_1,⟨x5_2_b,x5_2_i,x5_2_h⟩⟩:=x5;try dsimp only at h
  refine ACallM.mk _ _ _ _ rfl rfl (hF _ _ _ (ay hg ht hx5)) rfl (nb rfl) (nb rfl) ?_;cbv;obtain rfl:=Option.some.inj h;exact ARetM.mk trivial hX.symm hY.symm
 rw[aa hb3] at h;cbv
 cases hb4:(eq x2_1 3)
 rotate_left
 ·rw[ab hb4] at h;cbv;obtain⟨l2,hl2,h⟩:=ah h;try dsimp only at h
  refine AVal.mk (r_S l2) (by rw[←hl2];exact xm hg ht [s_k0,s_k1,s_k8]) ?_;cbv;obtain⟨x6,hx6,h⟩:=ac h;obtain⟨x6_1,⟨x6_2_b,x6_2_i,x6_2_h⟩⟩:=x6;try dsimp only at h
  refine ACallM.mk _ _ _ _ rfl rfl (hF _ _ _ (oG hg ht hx6)) rfl (nb rfl) (nb rfl) ?_;cbv;obtain rfl:=Option.some.inj h;exact ARetM.mk trivial hX.symm hY.symm
 rw[aa hb4] at h;cbv
 cases hb5:(eq x2_1 4)
 rotate_left
 ·rw[ab hb5] at h;cbv;obtain⟨l3,hl3,h⟩:=ah h;try dsimp only at h
  refine AVal.mk (r_I64 l3) (by rw[←hl3];exact f6 hg ht [0,1,60,61,(-1)]) ?_;cbv;obtain⟨x7,hx7,h⟩:=ac h;obtain⟨x7_1,⟨x7_2_b,x7_2_i,x7_2_h⟩⟩:=x7;try dsimp only at h
  refine ACallM.mk _ _ _ _ rfl rfl (hF _ _ _ (eP hg ht hx7)) rfl (nb rfl) (nb rfl) ?_;cbv;obtain rfl:=Option.some.inj h;exact ARetM.mk trivial hX.symm hY.symm
 rw[aa hb5] at h;cbv
 cases hb6:(eq x2_1 5)
 ·rw[aa hb6] at h;cbv;obtain rfl:=Option.some.inj h;exact ARetM.mk trivial hX.symm hY.symm
 rw[ab hb6] at h;cbv;obtain⟨l4,hl4,h⟩:=ah h;try dsimp only at h
 refine AVal.mk (r_I64 l4) (by rw[←hl4];exact f6 hg ht [(-1),1]) ?_;cbv;obtain⟨x8,hx8,h⟩:=ac h;obtain⟨x8_1,⟨x8_2_b,x8_2_i,x8_2_h⟩⟩:=x8;try dsimp only at h
 refine ACallM.mk _ _ _ _ rfl rfl (hF _ _ _ (eP hg ht hx8)) rfl (nb rfl) (nb rfl) ?_;cbv;obtain rfl:=Option.some.inj h;exact ARetM.mk trivial hX.symm hY.symm
def ir27:J:=js [jq 3 (.box 1),jq 4 (.mv (.k (.c (.n 6))))] [0,3] (.seq (.reg (some [[],[],[0,1],[],[],[0,1,2,3,4],[0,1,2,3,4,5],[0,1,2,3,4,5,6]]) [jm 10 0,jl 11 3 3,jq 12 (.callm 50 true 10 [11,(ki 1)]),jm 13 0,jl 14 3 3,jq 15 (.callm 50 true 13 [14,(ki 2)]),jq 16 (.app 6 56 false 12 15),jm 5 16] [0,3,5]) (.seq (js [jm 17 0,jq 18 (.callm 15 true 17 [(ki 4)]),jm 6 18] [0,3,5,6] (.bl 0 (.seq (js [jm 19 6,jb 20 .gtr .i 19 (ki 0)] [0,3,5,6,20] (.cond 20 .skip (.exit 0))) (.seq (.block 1 (.reg none [jm 23 5,jm 24 0,jl 25 3 3,jq 26 (.callm 51 true 24 [25]),jq 27 (.bsl 6 [26]),jq 28 (.app 6 56 true 23 27),jm 5 28] [0,3,5,6])) (.reg none [jm 21 6,jb 22 .sub .i 21 (ki 1),jm 6 22] [0,3,5,6]))))) (.seq (js [jm 29 0,jq 30 (.callm 15 true 29 [(ki 4)]),jm 7 30] [0,5,7] (.bl 2 (.seq (js [jm 31 7,jb 32 .gtr .i 31 (ki 0),jm 33 32,ju 34 33 (.mv 5),ju 35 33 (.len false 34),ju 36 33 (.bin .gtr .i 35 (ki 1)),jq 37 (.pick 33 36 kf)] [0,5,7,37] (.cond 37 .skip (.exit 2))) (.seq (.block 3 (js [jm 40 0,jm 41 5,jq 42 (.len false 41),jq 43 (.callm 15 true 40 [42]),jm 8 43] [0,5,7,8] (js [jm 44 5,jm 45 8,ja 46 6 44 45,jl 47 6 46,jq 9 (.alloc [.r (.v (.int .i64 0)),.r (.v (.int .i64 0)),.r (.v (.int .i64 0)),.r (.v (.string .empty)),.r (.v (.int .i64 0)),.r (.v (.int .i64 0))]),jp (.st 6 9 47)] [0,5,7,8,9] (.seq (.reg (some [[],[],[],[1,2],[0,1,2,3],[],[],[6],[5,6,7],[0,1,2,3,4,5,6,7,8],[],[10],[0,1,2,3,4,5,6,7,8,9,10,11],[0,1,2,3,4,5,6,7,8,9,10,11,12]]) [jq 48 (.bsl 6 []),jm 49 5,jm 50 8,jq 51 (.sl 6 49 none (some 50)),jq 52 (.app 6 56 false 48 51),jm 53 5,jm 54 8,jb 55 .add .i 54 (ki 1),jq 56 (.sl 6 53 (some 55) none),jq 57 (.app 6 56 false 52 56),jl 58 6 9,jq 59 (.bsl 6 [58]),jq 60 (.app 6 56 true 57 59),jm 5 60] [0,5,7,9]) (js [jm 61 0,jq 62 (.callm 29 true 61 [(ki 2)])] [0,5,7,9,62] (.cond 62 (.reg none [jm 63 5,jl 64 6 9,jq 65 (.bsl 6 [64]),jq 66 (.app 6 56 true 63 65),jm 5 66] [0,5,7]) .skip)))))) (.reg none [jm 38 7,jb 39 .sub .i 38 (ki 1),jm 7 39] [0,5,7]))))) (js [jm 67 5,jm 4 67] [4] .ret))))
def rv27:List RV:=[.t 4]
def du (g:G) (t:TE):Nat→List Int→Int→Int→List Scan→Int→Option ((List Int)×Int×Int×List Scan)
 |0,_,_,_,_,_=>none
 |n2+1,v5,v6,v7,w2,v8=>
  br (g.lt 0 v8)
  (
   br (g.lt 1 (g.int (g.dlen (t.d_Scan w2))))
   (
    cl (aG g t (Cur.mk v5 v6 v7) (g.int (g.dlen (t.d_Scan w2)))) fun x6=>
    gd (((0:Int)≤x6.1∧x6.1<(((g.dlen (t.d_Scan w2)):Nat):Int)))<|
    gt w2 (g.nat x6.1) fun x7=>
    lP ([]) fun(l4:List Scan)=>
    gd (((0:Int)≤0∧0≤x6.1∧x6.1≤(((g.dlen (t.d_Scan w2)):Nat):Int)))<|
    gd (((g.nat 0)+(g.nsub (g.nat x6.1) (g.nat 0))≤w2.length))<|
    gd (((l4.length+(List.take (g.nsub (g.nat x6.1) (g.nat 0)) (List.drop (g.nat 0) w2)).length)*56≤70368744177664))<|
    lP (l4++(List.take (g.nsub (g.nat x6.1) (g.nat 0)) (List.drop (g.nat 0) w2))) fun(l5:List Scan)=>
    gd (((0:Int)≤(g.wrap .i64 (g.add x6.1 1))∧(g.wrap .i64 (g.add x6.1 1))≤(g.int (g.dlen (t.d_Scan w2)))∧(g.int (g.dlen (t.d_Scan w2)))≤(((g.dlen (t.d_Scan w2)):Nat):Int)))<|
    gd (((g.nat (g.wrap .i64 (g.add x6.1 1)))+(g.nsub (g.nat (g.int (g.dlen (t.d_Scan w2)))) (g.nat (g.wrap .i64 (g.add x6.1 1))))≤w2.length))<|
    gd (((l5.length+(List.take (g.nsub (g.nat (g.int (g.dlen (t.d_Scan w2)))) (g.nat (g.wrap .i64 (g.add x6.1 1)))) (List.drop (g.nat (g.wrap .i64 (g.add x6.1 1))) w2)).length)*56≤70368744177664))<|
    lP (l5++(List.take (g.nsub (g.nat (g.int (g.dlen (t.d_Scan w2)))) (g.nat (g.wrap .i64 (g.add x6.1 1)))) (List.drop (g.nat (g.wrap .i64 (g.add x6.1 1))) w2))) fun(l6:List Scan)=>
    lP ([(Scan.mk x7.Thing x7.At x7.Kind x7.Place (Trip.mk x7.Trip.Leg x7.Trip.Day))]) fun(l7:List Scan)=>
    gd (((l6.length+l7.length)*56≤70368744177664))<|
    lP (l6++l7) fun(l8:List Scan)=>
    cl (ct g t (Cur.mk x6.2.b x6.2.i x6.2.h) 2) fun x8=>
    br x8.1
    (
     lP ([(Scan.mk x7.Thing x7.At x7.Kind x7.Place (Trip.mk x7.Trip.Leg x7.Trip.Day))]) fun(l9:List Scan)=>
     gd (((l8.length+l9.length)*56≤70368744177664))<|
     lP (l8++l9) fun(l10:List Scan)=>
     du g t n2 x8.2.b x8.2.i x8.2.h l10 (g.wrap .i64 (g.sub v8 1)))
    (
     du g t n2 x8.2.b x8.2.i x8.2.h l8 (g.wrap .i64 (g.sub v8 1))))
   (
    some (v5,v6,v7,w2)))
  (
   some (v5,v6,v7,w2))
def dZ (g:G) (t:TE) (a1:Network):Nat→List Int→Int→Int→List Scan→Int→Option ((List Int)×Int×Int×List Scan)
 |0,_,_,_,_,_=>none
 |n1+1,v1,v2,v3,w1,v4=>
  br (g.lt 0 v4)
  (
   cl (gR g t (Cur.mk v1 v2 v3) a1) fun x4=>
   lP ([(Scan.mk x4.1.Thing x4.1.At x4.1.Kind x4.1.Place (Trip.mk x4.1.Trip.Leg x4.1.Trip.Day))]) fun(l2:List Scan)=>
   gd (((w1.length+l2.length)*56≤70368744177664))<|
   lP (w1++l2) fun(l3:List Scan)=>
   dZ g t a1 n1 x4.2.b x4.2.i x4.2.h l3 (g.wrap .i64 (g.sub v4 1)))
  (
   some (v1,v2,v3,w1))
def kT (g:G) (t:TE) (a0:Cur) (a1:Network):Option ((List Scan)×Cur):=
 cl (ic g t a0 a1 1) fun x1=>
 cl (ic g t (Cur.mk x1.2.b x1.2.i x1.2.h) a1 2) fun x2=>
 gd (((x1.1.length+x2.1.length)*56≤70368744177664))<|
 lP (x1.1++x2.1) fun(l1:List Scan)=>
 cl (aG g t (Cur.mk x2.2.b x2.2.i x2.2.h) 4) fun x3=>
 cl (dZ g t a1 1000000000 x3.2.b x3.2.i x3.2.h l1 x3.1) fun y1=>
 cl (aG g t (Cur.mk y1.1 y1.2.1 y1.2.2.1) 4) fun x5=>
 cl (du g t 1000000000 x5.2.b x5.2.i x5.2.h y1.2.2.2 x5.1) fun y2=>
 some ((y2.2.2.2,(Cur.mk y2.1 y2.2.1 y2.2.2.1)))
theorem wJ {g:G} {t:TE} {a0:Cur} {a1:Network} {r:(List Scan)×Cur} (hg:g=G.real) (ht:t=TE.real) (h:kT g t a0 a1=some r):FnM Tryz.prog 27 (.p (Cur.ds t a0)) [.g (Network.rs t a1)] (.c (.o 6 (t.d_Scan r.1))) (.p (Cur.ds t r.2)):=by
 obtain⟨X,hX⟩:=aE (.c (.o 6 (t.d_Scan r.1)):X);obtain⟨Y,hY⟩:=aE (.p (Cur.ds t r.2):AM);rw[←hX,←hY];refine eM (rvs:=rv27) (j:=ir27) Tryz.func27 rfl (by kernel_rfl) (nb rfl) (by kernel_rfl) af ?_;intro g2 F hg2 hF;obtain rfl:g2=g:=hg2.unique.trans hg.symm;clear hg2;obtain⟨wrap,lt,_,_,_,_,_,_,_,_,_,_,int,_,sub,_,_,_,_,_,_,_,_,_,dlen⟩:=g2;obtain⟨r_U8,_,r_Leg,_,r_I64,_,_,d_Scan⟩:=t
 obtain⟨a0_b,a0_i,a0_h⟩:=a0;obtain⟨a1_Legs,a1_Off,a1_Change⟩:=a1;unfold kT at h;try dsimp only at h
 cbv;obtain⟨x1,hx1,h⟩:=ac h;obtain⟨x1_1,⟨x1_2_b,x1_2_i,x1_2_h⟩⟩:=x1;try dsimp only at h
 refine ACallM.mk _ _ _ _ rfl rfl (hF _ _ _ (pt hg ht hx1)) rfl (nb rfl) (nb rfl) ?_;cbv;obtain⟨x2,hx2,h⟩:=ac h;obtain⟨x2_1,⟨x2_2_b,x2_2_i,x2_2_h⟩⟩:=x2;try dsimp only at h
 refine ACallM.mk _ _ _ _ rfl rfl (hF _ _ _ (pt hg ht hx2)) rfl (nb rfl) (nb rfl) ?_;cbv;obtain⟨hc11,h⟩:=aj h;refine AStep.mk ⟨(tx hg ht (ae hg ht _)),(aA hg ht (ae hg ht _) (mp hg ht (ae hg ht _)) hc11)⟩ ?_;cbv;obtain⟨l1,hl1,h⟩:=ah h;try dsimp only at h
 refine ANew.mk (d_Scan l1) (dlen (d_Scan l1)) (by rw[←hl1];exact ba hg ht (ae hg ht _) (mp hg ht (ae hg ht _))) (by rw[←hl1];exact aT hg ht (ae hg ht _) (mp hg ht (ae hg ht _))) ?_;cbv;obtain⟨x3,hx3,h⟩:=ac h;obtain⟨x3_1,⟨x3_2_b,x3_2_i,x3_2_h⟩⟩:=x3;try dsimp only at h
 refine ACallM.mk _ _ _ _ rfl rfl (hF _ _ _ (ay hg ht hx3)) rfl (nb rfl) (nb rfl) ?_;cbv;obtain⟨o1,ho1,h⟩:=ac h;try dsimp only at h
 try rw[hg] at ho1
 try rw[ht] at ho1
 refine ABL.mk {p:Nat×(List Int)×Int×Int×(List Scan)×Int//dZ G.real TE.real (Network.mk a1_Legs a1_Off a1_Change) p.1 p.2.1 p.2.2.1 p.2.2.2.1 p.2.2.2.2.1 p.2.2.2.2.2=some o1} (fun⟨⟨n1,v1,v2,v3,w1,v4⟩,_⟩=>({sl:=[(0,.c (.p 3 3 0 0)),(3,.c (.p 0 3 0 0)),(5,.c (.f 1 6 0 (dlen (d_Scan w1)))),(6,.c (.r (.v (.int .i64 v4))))],tab:=[(0,some (.foc 3 [] [.r (.s 6 (r_Leg a1_Legs)),.r (.s 1 (r_I64 a1_Off)),.r (.v (.int .i64 a1_Change))] [])),(1,some (.arr 6 (d_Scan w1))),(3,some (.foc 3 [] [.r (.s 1 (r_U8 v1)),.r (.v (.int .i64 v2)),.r (.v (.int .i64 v3))] []))]}:St)) 4 (fun p=>p.1.1) ⟨(1000000000,x3_2_b,x3_2_i,x3_2_h,l1,x3_1),ho1⟩ ((List Int)×Int×Int×List Scan) (fun⟨y1_1,y1_2_1,y1_2_2_1,y1_2_2_2⟩=>({sl:=[(0,.c (.p 3 3 0 0)),(5,.c (.f 0 6 0 (dlen (d_Scan y1_2_2_2))))],tab:=[(0,some (.arr 6 (d_Scan y1_2_2_2))),(3,some (.foc 3 [] [.r (.s 1 (r_U8 y1_1)),.r (.v (.int .i64 y1_2_1)),.r (.v (.int .i64 y1_2_2_1))] []))]}:St)) 4 (fun y=>o1=y) ?_ ?_ ?_
 ·refine Wk.of [(0,some 4),(1,some 132),(3,some 3)] rfl rfl ?_ ?_
  ·cbv;all_goals exact⟨⟨_,rfl,rfl⟩,⟨_,rfl,rfl⟩,⟨_,rfl,rfl⟩,⟨_,rfl,rfl⟩,trivial⟩
  cbv;all_goals exact⟨⟨_,rfl,_,rfl,rfl,rfl,rfl,trivial⟩,⟨_,rfl,rfl⟩,⟨_,rfl,_,rfl,rfl,rfl,rfl,trivial⟩,trivial⟩
 ·rintro⟨⟨n1,v1,v2,v3,w1,v4⟩,h_1⟩ hq1;try dsimp only at h_1
  clear hq1;rcases n1 with _|n1
  ·rw[dZ] at h_1;cases h_1
  rw[dZ] at h_1;try rw[←hg] at h_1
  try rw[←ht] at h_1
  try dsimp only at h_1
  cbv
  cases hb1:(lt 0 v4)
  ·rw[aa hb1] at h_1;cbv;refine⟨(v1,v2,v3,w1),Wk.of [(0,some 1),(3,some 3)] rfl rfl ?_ ?_,(Option.some.inj h_1).symm⟩
   ·cbv;all_goals exact⟨⟨_,rfl,rfl⟩,⟨_,rfl,rfl⟩,trivial⟩
   cbv;all_goals exact⟨⟨_,rfl,rfl⟩,⟨_,rfl,_,rfl,rfl,rfl,rfl,trivial⟩,trivial⟩
  rw[ab hb1] at h_1;cbv;obtain⟨x4,hx4,h_1⟩:=ac h_1;obtain⟨⟨x4_1_Thing,x4_1_At,x4_1_Kind,x4_1_Place,⟨x4_1_Trip_Leg,x4_1_Trip_Day⟩⟩,⟨x4_2_b,x4_2_i,x4_2_h⟩⟩:=x4;try dsimp only at h_1
  refine ACallM.mk _ _ _ _ rfl rfl (hF _ _ _ (rO hg ht hx4)) rfl (nb rfl) (nb rfl) ?_;cbv;obtain⟨l2,hl2,h_1⟩:=ah h_1;try dsimp only at h_1
  refine ANew.mk (d_Scan l2) (dlen (d_Scan l2)) (by rw[←hl2];exact aN hg ht [(Scan.mk x4_1_Thing x4_1_At x4_1_Kind x4_1_Place (Trip.mk x4_1_Trip_Leg x4_1_Trip_Day))]) (by rw[←hl2];exact aC hg ht [(Scan.mk x4_1_Thing x4_1_At x4_1_Kind x4_1_Place (Trip.mk x4_1_Trip_Leg x4_1_Trip_Day))]) ?_;cbv;obtain⟨hc1,h_1⟩:=aj h_1;refine AStep.mk ⟨⟨rfl,(ae hg ht _)⟩,(aA hg ht (ae hg ht _) rfl hc1)⟩ ?_;cbv;obtain⟨l3,hl3,h_1⟩:=ah h_1;try dsimp only at h_1
  refine ANew.mk (d_Scan l3) (dlen (d_Scan l3)) (by rw[←hl3];exact ba hg ht (ae hg ht _) rfl) (by rw[←hl3];exact aT hg ht (ae hg ht _) rfl) ?_;cbv;try rw[hg] at h_1
  try rw[ht] at h_1
  refine⟨⟨(n1,x4_2_b,x4_2_i,x4_2_h,l3,(wrap .i64 (sub v4 1))),h_1⟩,Wk.of [(0,some 0),(1,some 116),(3,some 3)] rfl rfl ?_ ?_,Nat.lt_succ_self _⟩
  ·cbv;all_goals exact⟨⟨_,rfl,rfl⟩,⟨_,rfl,rfl⟩,⟨_,rfl,rfl⟩,⟨_,rfl,rfl⟩,trivial⟩
  cbv;all_goals exact⟨⟨_,rfl,_,rfl,rfl,rfl,rfl,trivial⟩,⟨_,rfl,rfl⟩,⟨_,rfl,_,rfl,rfl,rfl,rfl,trivial⟩,trivial⟩
 rintro⟨y1_1,y1_2_1,y1_2_2_1,y1_2_2_2⟩ hy1;replace hy1:=hy1.symm;subst hy1;try dsimp only[lr,lrL,lrp,a9] at h
 cbv;obtain⟨x5,hx5,h⟩:=ac h;obtain⟨x5_1,⟨x5_2_b,x5_2_i,x5_2_h⟩⟩:=x5;try dsimp only at h
 refine ACallM.mk _ _ _ _ rfl rfl (hF _ _ _ (ay hg ht hx5)) rfl (nb rfl) (nb rfl) ?_;cbv;obtain⟨o2,ho2,h⟩:=ac h;try dsimp only at h
 try rw[hg] at ho2
 try rw[ht] at ho2
 refine ABL.mk {p:Nat×(List Int)×Int×Int×(List Scan)×Int//du G.real TE.real p.1 p.2.1 p.2.2.1 p.2.2.2.1 p.2.2.2.2.1 p.2.2.2.2.2=some o2} (fun⟨⟨n2,v5,v6,v7,w2,v8⟩,_⟩=>({sl:=[(0,.c (.p 3 3 0 0)),(5,.c (.f 0 6 0 (dlen (d_Scan w2)))),(7,.c (.r (.v (.int .i64 v8))))],tab:=[(0,some (.arr 6 (d_Scan w2))),(3,some (.foc 3 [] [.r (.s 1 (r_U8 v5)),.r (.v (.int .i64 v6)),.r (.v (.int .i64 v7))] []))]}:St)) 4 (fun p=>p.1.1) ⟨(1000000000,x5_2_b,x5_2_i,x5_2_h,y1_2_2_2,x5_1),ho2⟩ ((List Int)×Int×Int×List Scan) (fun⟨y2_1,y2_2_1,y2_2_2_1,y2_2_2_2⟩=>({sl:=[(5,.c (.f 0 6 0 (dlen (d_Scan y2_2_2_2))))],tab:=[(0,some (.arr 6 (d_Scan y2_2_2_2))),(3,some (.foc 3 [] [.r (.s 1 (r_U8 y2_1)),.r (.v (.int .i64 y2_2_1)),.r (.v (.int .i64 y2_2_2_1))] []))]}:St)) 4 (fun y=>o2=y) ?_ ?_ ?_
 ·refine Wk.of [(0,some 0),(3,some 3)] rfl rfl ?_ ?_
  ·cbv;all_goals exact⟨⟨_,rfl,rfl⟩,⟨_,rfl,rfl⟩,⟨_,rfl,rfl⟩,trivial⟩
  cbv;all_goals exact⟨⟨_,rfl,rfl⟩,⟨_,rfl,_,rfl,rfl,rfl,rfl,trivial⟩,trivial⟩
 ·rintro⟨⟨n2,v5,v6,v7,w2,v8⟩,h_2⟩ hq2;try dsimp only at h_2
  clear hq2;rcases n2 with _|n2
  ·rw[du] at h_2;cases h_2
  rw[du] at h_2;try rw[←hg] at h_2
  try rw[←ht] at h_2
  try dsimp only at h_2
  cbv
  cases hb2:(lt 0 v8)
  ·rw[aa hb2] at h_2;cbv;iterate 3 try(rw[hb2];cbv)
   refine⟨(v5,v6,v7,w2),Wk.of [(0,some 0),(3,some 3)] rfl rfl ?_ ?_,(Option.some.inj h_2).symm⟩
   ·cbv;all_goals exact⟨⟨_,rfl,rfl⟩,trivial⟩
   cbv;all_goals exact⟨⟨_,rfl,rfl⟩,⟨_,rfl,_,rfl,rfl,rfl,rfl,trivial⟩,trivial⟩
  rw[ab hb2] at h_2;cbv;iterate 3 try(rw[hb2];cbv)
  cases hb3:(lt 1 (int (dlen (d_Scan w2))))
  ·rw[aa hb3] at h_2;cbv;refine⟨(v5,v6,v7,w2),Wk.of [(0,some 0),(3,some 3)] rfl rfl ?_ ?_,(Option.some.inj h_2).symm⟩
   ·cbv;all_goals exact⟨⟨_,rfl,rfl⟩,trivial⟩
   cbv;all_goals exact⟨⟨_,rfl,rfl⟩,⟨_,rfl,_,rfl,rfl,rfl,rfl,trivial⟩,trivial⟩
  rw[ab hb3] at h_2;cbv;obtain⟨x6,hx6,h_2⟩:=ac h_2;obtain⟨x6_1,⟨x6_2_b,x6_2_i,x6_2_h⟩⟩:=x6;try dsimp only at h_2
  refine ACallM.mk _ _ _ _ rfl rfl (hF _ _ _ (ay hg ht hx6)) rfl (nb rfl) (nb rfl) ?_;cbv;obtain⟨hc2,h_2⟩:=aj h_2;refine AStep.mk hc2 ?_;cbv;obtain⟨x7,hx7,h_2⟩:=aP h_2;obtain⟨x7_Thing,x7_At,x7_Kind,x7_Place,⟨x7_Trip_Leg,x7_Trip_Day⟩⟩:=x7;try dsimp only at h_2
  refine AGet.mk _ (bo hg ht hx7) ?_;cbv;obtain⟨l4,hl4,h_2⟩:=ah h_2;try dsimp only at h_2
  refine ANew.mk (d_Scan l4) (dlen (d_Scan l4)) (by rw[←hl4];exact aN hg ht []) (by rw[←hl4];exact aC hg ht []) ?_;cbv;obtain⟨hc3,h_2⟩:=aj h_2;refine AStep.mk hc3 ?_;cbv;obtain⟨hc9,h_2⟩:=aj h_2;obtain⟨hc10,h_2⟩:=aj h_2;refine AStep.mk ⟨(eY hg ht hc9),(aA hg ht (ae hg ht _) (bE hg ht _ _ _) hc10)⟩ ?_;cbv;obtain⟨l5,hl5,h_2⟩:=ah h_2;try dsimp only at h_2
  refine ANew.mk (d_Scan l5) (dlen (d_Scan l5)) (by rw[←hl5];exact ba hg ht (ae hg ht _) (bE hg ht _ _ _)) (by rw[←hl5];exact aT hg ht (ae hg ht _) (bE hg ht _ _ _)) ?_;cbv;obtain⟨hc4,h_2⟩:=aj h_2;refine AStep.mk hc4 ?_;cbv;obtain⟨hc7,h_2⟩:=aj h_2;obtain⟨hc8,h_2⟩:=aj h_2;refine AStep.mk ⟨(eY hg ht hc7),(aA hg ht (ae hg ht _) (bE hg ht _ _ _) hc8)⟩ ?_;cbv;obtain⟨l6,hl6,h_2⟩:=ah h_2;try dsimp only at h_2
  refine ANew.mk (d_Scan l6) (dlen (d_Scan l6)) (by rw[←hl6];exact ba hg ht (ae hg ht _) (bE hg ht _ _ _)) (by rw[←hl6];exact aT hg ht (ae hg ht _) (bE hg ht _ _ _)) ?_;cbv;obtain⟨l7,hl7,h_2⟩:=ah h_2;try dsimp only at h_2
  refine ANew.mk (d_Scan l7) (dlen (d_Scan l7)) (by rw[←hl7];exact aN hg ht [(Scan.mk x7_Thing x7_At x7_Kind x7_Place (Trip.mk x7_Trip_Leg x7_Trip_Day))]) (by rw[←hl7];exact aC hg ht [(Scan.mk x7_Thing x7_At x7_Kind x7_Place (Trip.mk x7_Trip_Leg x7_Trip_Day))]) ?_;cbv;obtain⟨hc6,h_2⟩:=aj h_2;refine AStep.mk ⟨⟨rfl,(ae hg ht _)⟩,(aA hg ht (ae hg ht _) rfl hc6)⟩ ?_;cbv;obtain⟨l8,hl8,h_2⟩:=ah h_2;try dsimp only at h_2
  refine ANew.mk (d_Scan l8) (dlen (d_Scan l8)) (by rw[←hl8];exact ba hg ht (ae hg ht _) rfl) (by rw[←hl8];exact aT hg ht (ae hg ht _) rfl) ?_;cbv;obtain⟨x8,hx8,h_2⟩:=ac h_2;obtain⟨x8_1,⟨x8_2_b,x8_2_i,x8_2_h⟩⟩:=x8;try dsimp only at h_2
  refine ACallM.mk _ _ _ _ rfl rfl (hF _ _ _ (cd hg ht hx8)) rfl (nb rfl) (nb rfl) ?_;cbv;have hb4:x8_1=true∨x8_1=false:=by cases x8_1<;>simp
  rcases hb4 with hb4|hb4
  ·rw[ab hb4] at h_2;have hK_:=h_2;subst hb4;have h_2:=hK_;clear hK_;cbv;obtain⟨l9,hl9,h_2⟩:=ah h_2;try dsimp only at h_2
   refine ANew.mk (d_Scan l9) (dlen (d_Scan l9)) (by rw[←hl9];exact aN hg ht [(Scan.mk x7_Thing x7_At x7_Kind x7_Place (Trip.mk x7_Trip_Leg x7_Trip_Day))]) (by rw[←hl9];exact aC hg ht [(Scan.mk x7_Thing x7_At x7_Kind x7_Place (Trip.mk x7_Trip_Leg x7_Trip_Day))]) ?_;cbv;obtain⟨hc5,h_2⟩:=aj h_2;refine AStep.mk ⟨⟨rfl,(ae hg ht _)⟩,(aA hg ht (ae hg ht _) rfl hc5)⟩ ?_;cbv;obtain⟨l10,hl10,h_2⟩:=ah h_2;try dsimp only at h_2
   refine ANew.mk (d_Scan l10) (dlen (d_Scan l10)) (by rw[←hl10];exact ba hg ht (ae hg ht _) rfl) (by rw[←hl10];exact aT hg ht (ae hg ht _) rfl) ?_;cbv;try rw[hg] at h_2
   try rw[ht] at h_2
   refine⟨⟨(n2,x8_2_b,x8_2_i,x8_2_h,l10,(wrap .i64 (sub v8 1))),h_2⟩,Wk.of [(0,some 596),(3,some 3)] rfl rfl ?_ ?_,Nat.lt_succ_self _⟩
   ·cbv;all_goals exact⟨⟨_,rfl,rfl⟩,⟨_,rfl,rfl⟩,⟨_,rfl,rfl⟩,trivial⟩
   cbv;all_goals exact⟨⟨_,rfl,rfl⟩,⟨_,rfl,_,rfl,rfl,rfl,rfl,trivial⟩,trivial⟩
  rw[aa hb4] at h_2;have hK_:=h_2;subst hb4;have h_2:=hK_;clear hK_;cbv;try rw[hg] at h_2
  try rw[ht] at h_2
  refine⟨⟨(n2,x8_2_b,x8_2_i,x8_2_h,l8,(wrap .i64 (sub v8 1))),h_2⟩,Wk.of [(0,some 484),(3,some 3)] rfl rfl ?_ ?_,Nat.lt_succ_self _⟩
  ·cbv;all_goals exact⟨⟨_,rfl,rfl⟩,⟨_,rfl,rfl⟩,⟨_,rfl,rfl⟩,trivial⟩
  cbv;all_goals exact⟨⟨_,rfl,rfl⟩,⟨_,rfl,_,rfl,rfl,rfl,rfl,trivial⟩,trivial⟩
 rintro⟨y2_1,y2_2_1,y2_2_2_1,y2_2_2_2⟩ hy2;replace hy2:=hy2.symm;subst hy2;try dsimp only[lr,lrL,lrp,a9] at h
 cbv;obtain rfl:=Option.some.inj h;exact ARetM.mk ⟨rfl,(ae hg ht _)⟩ hX.symm hY.symm
def ir73 (s_k0:ByteArray):J:=js [jq 2 (.box 0),jq 3 (.box 1),jm 4 kf] [2,3] (.seq (js [jl 5 3 2,jc 6 95 [5],jq 7 (.not 6),jm 8 7,jv 9 8 (.fa 0 3),jv 10 8 (.ld false 1 9),jv 11 8 (.call 98 true [10,(ki 1),(ki 9999)]),jv 12 8 (.not 11),jq 13 (.pick 8 kt 12),jm 14 13,jv 15 14 (.fa 1 3),jv 16 14 (.ld false 1 15),jv 17 14 (.call 98 true [16,(ki 0),(ki 100000)]),jv 18 14 (.not 17),jq 19 (.pick 14 kt 18)] [2,3,19] (.cond 19 (js [jm 4 kf] [4] .ret) .skip)) (.seq (js [jf 20 2 3,jk 21 20] [2,3,21] (.block 0 (.seq (js [jb 23 .eql .i 21 (ki 1),jm 22 23] [2,3,21,22] (.cond 22 .skip (.reg none [jb 24 .eql .i 21 (ki 4),jm 22 24] [2,3,21,22]))) (.cond 22 (.seq (.reg (some [[],[0],[],[2],[0,1,2,3],[0,1,2,3,4],[0,1,2,3,4,5],[0,1,2,3,4,5,6],[0,1,2,3,4,5,6,7],[0,1,2,3,4,5,6],[0,1,2,3,4,5,6,7,8,9],[0,1,2,3,4,5,6,7,8,9,10],[0,1,2,3,4,5,6,7,8,9,10,11]]) [jl 25 3 2,jc 26 87 [25],jf 27 3 3,jk 28 27,jc 29 89 [26,28],jb 30 .geq .i 29 (ki 0),jm 31 30,ju 32 31 (.fa 4 3),ju 33 31 (.ld true 2 32),ju 34 31 (.bld [.r (.v (.int .i64 0)),.r (.v (.int .i64 0))] []),ju 35 31 (.eqs false [.i,.i] 33 34),jq 36 (.pick 31 35 kf),jm 4 36] [4]) .ret) (js [jb 38 .eql .i 21 (ki 3),jm 37 38] [2,3,21,37] (.cond 37 (.seq (.reg (some [[],[0],[0,1],[0,1,2],[0,1,2,3],[0,1,2,3],[0,1,2,3,5],[0,1,2,3,4,5,6],[0,1,2,3,4,5,6,7],[0,1,2,3,4,5,6,7,8],[0,1,2,3,4,5,6,7,8,9],[0,1,2,3,4,5,6,7,8,9,10],[0,1,2,3,4,5,6,7,8,9],[0,1,2,3,4,5,6,7,8,9],[0,1,2,3,4,5,6,7,8,9,13],[0,1,2,3,4,5,6,7,8,9,12,13,14],[0,1,2,3,4,5,6,7,8,9,10,11,12,13,14,15],[0,1,2,3,4,5,6,7,8,9,10,11,12,13,14,15,16],[0,1,2,3,4,5,6,7,8,9,10,11,12,13,14,15,16,17]]) [jf 39 3 3,jk 40 39,jq 41 (.bin .eql .s 40 (.k (.c (.r (.v (.string s_k0)))))),jm 42 41,ju 43 42 (.ld true 3 2),ju 44 42 (.fa 4 3),ju 45 42 (.ld true 2 44),ju 46 42 (.call 92 true [43,45]),jq 47 (.pick 42 46 kf),jm 48 47,ju 49 48 (.fa 1 3),ju 50 48 (.ld false 1 49),ju 51 48 (.ld true 3 2),ju 52 48 (.fa 4 3),ju 53 48 (.ld true 2 52),ju 54 48 (.call 93 true [51,53]),ju 55 48 (.bin .leq .i 50 54),jq 56 (.pick 48 55 kf),jm 4 56] [4]) .ret) (js [jb 58 .eql .i 21 (ki 2),jm 57 58] [2,3,57] (.cond 57 (.seq (.reg (some [[],[0],[0,1],[0,1,2],[0,1,2,3],[0,1,2,3],[0,1,2,3,5],[0,1,2,3,4,5,6],[0,1,2,3,4,5,6,7],[0,1,2,3,4,5,6,7,8],[0,1,2,3,4,5,6,7,8,9],[0,1,2,3,4,5,6,7,8,9,10],[0,1,2,3,4,5,6,7,8,9],[0,1,2,3,4,5,6,7,8,9],[0,1,2,3,4,5,6,7,8,9,13],[0,1,2,3,4,5,6,7,8,9,12,13,14],[0,1,2,3,4,5,6,7,8,9,10,11,12,13,14,15],[0,1,2,3,4,5,6,7,8,9,10,11,12,13,14,15,16],[0,1,2,3,4,5,6,7,8,9,10,11,12,13,14,15,16,17]]) [jf 59 3 3,jk 60 59,jq 61 (.bin .eql
 .s 60 (.k (.c (.r (.v (.string s_k0)))))),jm 62 61,ju 63 62 (.ld true 3 2),ju 64 62 (.fa 4 3),ju 65 62 (.ld true 2 64),ju 66 62 (.call 92 true [63,65]),jq 67 (.pick 62 66 kf),jm 68 67,ju 69 68 (.fa 1 3),ju 70 68 (.ld false 1 69),ju 71 68 (.ld true 3 2),ju 72 68 (.fa 4 3),ju 73 68 (.ld true 2 72),ju 74 68 (.call 94 true [71,73]),ju 75 68 (.bin .geq .i 70 74),jq 76 (.pick 68 75 kf),jm 4 76] [4]) .ret) .skip)))))))) (js [jm 4 kf] [4] .ret)))
def rv73:List RV:=[.t 4]
def kz (g:G) (t:TE) (a0:Network) (a1:Scan):Option Bool:=
 cl (cX g t a0) fun x1=>
 br x1
 (
  lP (fF g t a1.Thing 1 9999) fun x2=>
  br x2
  (
   lP (fF g t a1.At 0 100000) fun x3=>
   br x3
   (
    br (g.eq a1.Kind 1)
    (
     cl (dG g t a0) fun x4=>
     lP (cJ g t x4 a1.Place) fun x5=>
     br (g.le 0 x5)
     (
      some (g.all [(g.eq a1.Trip.Leg 0),(g.eq a1.Trip.Day 0)]))
     (
      some false))
    (
     br (g.eq a1.Kind 4)
     (
      cl (dG g t a0) fun x6=>
      lP (cJ g t x6 a1.Place) fun x7=>
      br (g.le 0 x7)
      (
       some (g.all [(g.eq a1.Trip.Leg 0),(g.eq a1.Trip.Day 0)]))
      (
       some false))
     (
      br (g.eq a1.Kind 3)
      (
       br (g.seq a1.Place str_k0)
       (
        cl (fv g t a0 (Trip.mk a1.Trip.Leg a1.Trip.Day)) fun x8=>
        br x8
        (
         cl (dd g t a0 (Trip.mk a1.Trip.Leg a1.Trip.Day)) fun x9=>
         some (g.le a1.At x9))
        (
         some false))
       (
        some false))
      (
       br (g.eq a1.Kind 2)
       (
        br (g.seq a1.Place str_k0)
        (
         cl (fv g t a0 (Trip.mk a1.Trip.Leg a1.Trip.Day)) fun x10=>
         br x10
         (
          cl (eE g t a0 (Trip.mk a1.Trip.Leg a1.Trip.Day)) fun x11=>
          some (g.le x11 a1.At))
         (
          some false))
        (
         some false))
       (
        some false)))))
   (
    some false))
  (
   some false))
 (
  some false)
theorem xp {g:G} {t:TE} {a0:Network} {a1:Scan} {r:Bool} (hg:g=G.real) (ht:t=TE.real) (h:kz g t a0 a1=some r):Fn Tryz.prog 73 [.g (Network.rs t a0),.g (Scan.rs t a1)] (.c (.r (.v (.bool r)))):=by
 obtain⟨X,hX⟩:=aE (.c (.r (.v (.bool r))):X);rw[←hX];refine aB (rvs:=rv73) (j:=(ir73 str_k0)) Tryz.func73 rfl (by kernel_rfl) (nb rfl) (by kernel_rfl) af ?_;intro g2 F hg2 hF;obtain rfl:g2=g:=hg2.unique.trans hg.symm;clear hg2;obtain⟨_,_,le,eq,_,_,_,_,_,_,_,_,_,_,_,_,_,seq,_,_,_,_,_,_,dlen,_,_,_,rd⟩:=g2;obtain⟨_,_,_,_,_,_,_,_,r_S,d_S⟩:=t
 obtain⟨a0_Legs,a0_Off,a0_Change⟩:=a0;obtain⟨a1_Thing,a1_At,a1_Kind,a1_Place,⟨a1_Trip_Leg,a1_Trip_Day⟩⟩:=a1;unfold kz at h;try dsimp only at h
 obtain⟨s_k0,hs_k0⟩:∃s,str_k0=s:=⟨_,rfl⟩;try rw[hs_k0] at h
 rw[hs_k0];cbv;obtain⟨x1,hx1,h⟩:=ac h;try dsimp only at h
 refine ACall.mk _ _ rfl (hF _ _ _ (gI hg ht hx1)) (.inl rfl) (nb rfl) ?_;cbv
 cases hb1:x1
 ·rw[aa hb1] at h;cbv;iterate 4 try(rw[hb1];cbv)
  obtain rfl:=Option.some.inj h;exact ARet.mk trivial hX.symm
 rw[ab hb1] at h;cbv;iterate 2 try(rw[hb1];cbv)
 obtain⟨x2,hx2,h⟩:=ah h;try dsimp only at h
 refine ACall.mk _ _ rfl (hF _ _ _ (eK hg ht hx2)) (.inl rfl) (nb rfl) ?_;cbv;iterate 2 try(rw[hb1];cbv)
 cases hb2:x2
 ·rw[aa hb2] at h;cbv;iterate 4 try(rw[hb2];cbv)
  obtain rfl:=Option.some.inj h;exact ARet.mk trivial hX.symm
 rw[ab hb2] at h;cbv;iterate 2 try(rw[hb2];cbv)
 obtain⟨x3,hx3,h⟩:=ah h;try dsimp only at h
 refine ACall.mk _ _ rfl (hF _ _ _ (eK hg ht hx3)) (.inl rfl) (nb rfl) ?_;cbv;iterate 2 try(rw[hb2];cbv)
 cases hb3:x3
 ·rw[aa hb3] at h;cbv;obtain rfl:=Option.some.inj h;exact ARet.mk trivial hX.symm
 rw[ab hb3] at h;cbv
 cases hb4:(eq a1_Kind 1)
 rotate_left
 ·rw[ab hb4] at h;cbv;try(rw[hb4];cbv)
  obtain⟨x4,hx4,h⟩:=ac h;try dsimp only at h
  refine ACall.mk _ _ rfl (hF _ _ _ (eU hg ht hx4)) (.inl rfl) (nb rfl) ?_;cbv;refine AStep.mk (en ht (al hg ht _)) ?_;cbv;obtain⟨x5,hx5,h⟩:=ah h;try dsimp only at h
  refine ACall.mk _ _ (by rw[show rd (d_S x4) 0 (dlen (d_S x4))=r_S x4 from gi hg ht (al hg ht _)];try rfl) (hF _ _ _ (dc hg ht hx5)) (.inr rfl) (nb rfl) ?_
  cbv
  cases hb5:(le 0 x5)
  rotate_left
  ·rw[ab hb5] at h;cbv;iterate 4 try(rw[hb5];cbv)
   obtain rfl:=Option.some.inj h;exact ARet.mk trivial hX.symm
  rw[aa hb5] at h;cbv;iterate 4 try(rw[hb5];cbv)
  obtain rfl:=Option.some.inj h;exact ARet.mk trivial hX.symm
 rw[aa hb4] at h;cbv
 cases hb6:(eq a1_Kind 4)
 rotate_left
 ·rw[ab hb6] at h;cbv;obtain⟨x6,hx6,h⟩:=ac h;try dsimp only at h
  refine ACall.mk _ _ rfl (hF _ _ _ (eU hg ht hx6)) (.inl rfl) (nb rfl) ?_;cbv;refine AStep.mk (en ht (al hg ht _)) ?_;cbv;obtain⟨x7,hx7,h⟩:=ah h;try dsimp only at h
  refine ACall.mk _ _ (by rw[show rd (d_S x6) 0 (dlen (d_S x6))=r_S x6 from gi hg ht (al hg ht _)];try rfl) (hF _ _ _ (dc hg ht hx7)) (.inr rfl) (nb rfl) ?_
  cbv
  cases hb7:(le 0 x7)
  rotate_left
  ·rw[ab hb7] at h;cbv;iterate 4 try(rw[hb7];cbv)
   obtain rfl:=Option.some.inj h;exact ARet.mk trivial hX.symm
  rw[aa hb7] at h;cbv;iterate 4 try(rw[hb7];cbv)
  obtain rfl:=Option.some.inj h;exact ARet.mk trivial hX.symm
 rw[aa hb6] at h;cbv
 cases hb8:(eq a1_Kind 3)
 rotate_left
 ·rw[ab hb8] at h;cbv
  cases hb9:(seq a1_Place s_k0)
  ·rw[aa hb9] at h;cbv;iterate 4 try(rw[hb9];cbv)
   obtain rfl:=Option.some.inj h;exact ARet.mk trivial hX.symm
  rw[ab hb9] at h;cbv;iterate 3 try(rw[hb9];cbv)
  obtain⟨x8,hx8,h⟩:=ac h;try dsimp only at h
  refine ACall.mk _ _ rfl (hF _ _ _ (iK hg ht hx8)) (.inl rfl) (nb rfl) ?_;cbv;try(rw[hb9];cbv)
  cases hb10:x8
  ·rw[aa hb10] at h;cbv;iterate 7 try(rw[hb10];cbv)
   obtain rfl:=Option.some.inj h;exact ARet.mk trivial hX.symm
  rw[ab hb10] at h;cbv;iterate 5 try(rw[hb10];cbv)
  obtain⟨x9,hx9,h⟩:=ac h;try dsimp only at h
  refine ACall.mk _ _ rfl (hF _ _ _ (g9 hg ht hx9)) (.inl rfl) (nb rfl) ?_;cbv;iterate 2 try(rw[hb10];cbv)
  obtain rfl:=Option.some.inj h;exact ARet.mk trivial hX.symm
 rw[aa hb8] at h;cbv
 cases hb11:(eq a1_Kind 2)
 ·rw[aa hb11] at h;cbv;obtain rfl:=Option.some.inj h;exact ARet.mk trivial hX.symm
 rw[ab hb11] at h;cbv
 cases hb12:(seq a1_Place s_k0)
 ·rw[aa hb12] at h;cbv;iterate 4 try(rw[hb12];cbv)
  obtain rfl:=Option.some.inj h;exact ARet.mk trivial hX.symm
 rw[ab hb12] at h;cbv;iterate 3 try(rw[hb12];cbv)
 obtain⟨x10,hx10,h⟩:=ac h;try dsimp only at h
 refine ACall.mk _ _ rfl (hF _ _ _ (iK hg ht hx10)) (.inl rfl) (nb rfl) ?_;cbv;try(rw[hb12];cbv)
 cases hb13:x10
 ·rw[aa hb13] at h;cbv;iterate 7 try(rw[hb13];cbv)
  obtain rfl:=Option.some.inj h;exact ARet.mk trivial hX.symm
 rw[ab hb13] at h;cbv;iterate 5 try(rw[hb13];cbv)
 obtain⟨x11,hx11,h⟩:=ac h;try dsimp only at h
 refine ACall.mk _ _ rfl (hF _ _ _ (iN hg ht hx11)) (.inl rfl) (nb rfl) ?_;cbv;iterate 2 try(rw[hb13];cbv)
 obtain rfl:=Option.some.inj h;exact ARet.mk trivial hX.symm
def ir74:J:=js [jq 2 (.box 0),jq 3 (.box 1),jm 4 (ki 0)] [2,3] (js [jf 8 1 2,jk 9 8,jf 10 0 2,jk 11 10,jf 12 2 2,jk 13 12,jf 14 4 2,jf 15 1 14,jk 16 15,jf 17 4 2,jf 18 0 17,jk 19 18,jq 20 (.bsl 1 [9,11,13,16,19]),jm 5 20] [2,3,5] (js [jf 21 1 3,jk 22 21,jf 23 0 3,jk 24 23,jf 25 2 3,jk 26 25,jf 27 4 3,jf 28 1 27,jk 29 28,jf 30 4 3,jf 31 0 30,jk 32 31,jq 33 (.bsl 1 [22,24,26,29,32]),jm 6 33] [2,3,5,6] (.seq (js [jm 7 (ki 0)] [2,3,5,6,7] (.bl 0 (.seq (js [jm 34 7,jm 35 5,jq 36 (.len false 35),jb 37 .lss .i 34 36] [2,3,5,6,7,37] (.cond 37 .skip (.exit 0))) (.seq (.block 1 (.seq (.seq (.reg (some [[],[],[0,1],[0,1,2],[],[],[4,5],[4,5,6],[0,1,2,3,4,5,6,7]]) [jm 40 5,jm 41 7,ja 42 1 40 41,jk 43 42,jm 44 6,jm 45 7,ja 46 1 44 45,jk 47 46,jb 48 .lss .i 43 47] [2,3,5,6,7,48]) (.cond 48 (js [jq 4 (.mv (.k (V.i (-1))))] [4] .ret) .skip)) (.seq (.reg (some [[],[],[0,1],[0,1,2],[],[],[4,5],[4,5,6],[0,1,2,3,4,5,6,7]]) [jm 49 5,jm 50 7,ja 51 1 49 50,jk 52 51,jm 53 6,jm 54 7,ja 55 1 53 54,jk 56 55,jb 57 .gtr .i 52 56] [2,3,5,6,7,57]) (.cond 57 (js [jm 4 (ki 1)] [4] .ret) .skip)))) (.reg none [jm 38 7,jb 39 .add .i 38 (ki 1),jm 7 39] [2,3,5,6,7]))))) (.seq (.block 2 (js [jf 59 3 2,jk 60 59,jf 61 3 3,jk 62 61,jb 63 .lss .s 60 62,jm 58 63] [2,3,58] (.cond 58 (js [jq 4 (.mv (.k (V.i (-1))))] [4] .ret) (js [jf 65 3 2,jk 66 65,jf 67 3 3,jk 68 67,jb 69 .gtr .s 66 68,jm 64 69] [64] (.cond 64 (js [jm 4 (ki 1)] [4] .ret) .skip))))) (js [jm 4 (ki 0)] [4] .ret)))))
def rv74:List RV:=[.t 4]
def bj (g:G) (t:TE) (l1:List Int) (l2:List Int):Nat→Int→Option (LR Int Unit)
 |0,v1=>
  some (LR.out ())
 |n1+1,v1=>
  gt l1 (g.nat v1) fun x1=>
  gd (((0:Int)≤v1∧v1<(((g.dlen (t.d_I64 l2)):Nat):Int)))<|
  gt l2 (g.nat v1) fun x2=>
  br (g.lt x1 x2)
  (
   some (LR.ret (-1)))
  (
   gd (((0:Int)≤v1∧v1<(((g.dlen (t.d_I64 l2)):Nat):Int)))<|
   br (g.lt x2 x1)
   (
    some (LR.ret 1))
   (
    bj g t l1 l2 n1 (g.wrap .i64 (g.add v1 1))))
def dR (g:G) (t:TE) (a0:Scan) (a1:Scan):Option Int:=
 lP ([a0.At,a0.Thing,a0.Kind,a0.Trip.Day,a0.Trip.Leg]) fun(l1:List Int)=>
 lP ([a1.At,a1.Thing,a1.Kind,a1.Trip.Day,a1.Trip.Leg]) fun(l2:List Int)=>
 gd (((g.int (g.dlen (t.d_I64 l1)))≤9223372036854775807))<|
 cl (bj g t l1 l2 (ap 0 (g.int (g.dlen (t.d_I64 l1)))) 0) fun o1=>lr o1 fun y1=>
 br (g.slt a0.Place a1.Place)
 (
  some (-1))
 (
  br (g.sle a0.Place a1.Place)
  (
   some 0)
  (
   some 1))
theorem nS {g:G} {t:TE} {a0:Scan} {a1:Scan} {r:Int} (hg:g=G.real) (ht:t=TE.real) (h:dR g t a0 a1=some r):Fn Tryz.prog 74 [.g (Scan.rs t a0),.g (Scan.rs t a1)] (.c (.r (.v (.int .i64 r)))):=by
 obtain⟨X,hX⟩:=aE (.c (.r (.v (.int .i64 r))):X);rw[←hX];refine aB (rvs:=rv74) (j:=ir74) Tryz.func74 rfl (by kernel_rfl) (nb rfl) (by kernel_rfl) af ?_;intro g2 F hg2 hF;obtain rfl:g2=g:=hg2.unique.trans hg.symm;clear hg2;obtain⟨wrap,lt,_,_,_,_,_,_,_,_,_,_,int,add,_,_,_,_,slt,_,_,_,_,_,dlen,_,_,_,_,_,_,_,_,_,sle⟩:=g2;obtain⟨_,_,_,_,_,d_I64⟩:=t
 obtain⟨a0_Thing,a0_At,a0_Kind,a0_Place,⟨a0_Trip_Leg,a0_Trip_Day⟩⟩:=a0;obtain⟨a1_Thing,a1_At,a1_Kind,a1_Place,⟨a1_Trip_Leg,a1_Trip_Day⟩⟩:=a1;unfold dR at h;try dsimp only at h
 cbv;obtain⟨l1,hl1,h⟩:=ah h;try dsimp only at h
 refine ANew.mk (d_I64 l1) (dlen (d_I64 l1)) (by rw[←hl1];exact dN hg ht [a0_At,a0_Thing,a0_Kind,a0_Trip_Day,a0_Trip_Leg]) (by rw[←hl1];exact df hg ht [a0_At,a0_Thing,a0_Kind,a0_Trip_Day,a0_Trip_Leg]) ?_;cbv;obtain⟨l2,hl2,h⟩:=ah h;try dsimp only at h
 refine ANew.mk (d_I64 l2) (dlen (d_I64 l2)) (by rw[←hl2];exact dN hg ht [a1_At,a1_Thing,a1_Kind,a1_Trip_Day,a1_Trip_Leg]) (by rw[←hl2];exact df hg ht [a1_At,a1_Thing,a1_Kind,a1_Trip_Day,a1_Trip_Leg]) ?_;cbv;obtain⟨hB1,h⟩:=aj h;obtain⟨o1,ho1,h⟩:=ac h;try dsimp only at h
 try rw[hg] at ho1
 try rw[ht] at ho1
 refine ABL.mk {p:Nat×Int//p.1=ap p.2 (int (dlen (d_I64 l1)))∧0≤p.2∧bj G.real TE.real l1 l2 p.1 p.2=some o1} (fun⟨⟨n1,v1⟩,_⟩=>({sl:=[(2,.c (.p 0 6 0 0)),(3,.c (.p 1 6 0 0)),(5,.c (.f 2 1 0 (dlen (d_I64 l1)))),(6,.c (.f 3 1 0 (dlen (d_I64 l2)))),(7,.c (.r (.v (.int .i64 v1))))],tab:=[(0,some (.foc 6 [] [.r (.v (.int .i64 a0_Thing)),.r (.v (.int .i64 a0_At)),.r (.v (.int .i64 a0_Kind)),.r (.v (.string a0_Place)),.r (.v (.int .i64 a0_Trip_Leg)),.r (.v (.int .i64 a0_Trip_Day))] [])),(1,some (.foc 6 [] [.r (.v (.int .i64 a1_Thing)),.r (.v (.int .i64 a1_At)),.r (.v (.int .i64 a1_Kind)),.r (.v (.string a1_Place)),.r (.v (.int .i64 a1_Trip_Leg)),.r (.v (.int .i64 a1_Trip_Day))] [])),(2,some (.arr 1 (d_I64 l1))),(3,some (.arr 1 (d_I64 l2)))]}:St)) 4 (fun p=>p.1.1) ⟨(ap 0 (int (dlen (d_I64 l1))),0),rfl,Int.le_refl _,ho1⟩ (Unit) (fun _=>({sl:=[(2,.c (.p 0 6 0 0)),(3,.c (.p 1 6 0 0))],tab:=[(0,some (.foc 6 [] [.r (.v (.int .i64 a0_Thing)),.r (.v (.int .i64 a0_At)),.r (.v (.int .i64 a0_Kind)),.r (.v (.string a0_Place)),.r (.v (.int .i64 a0_Trip_Leg)),.r (.v (.int .i64 a0_Trip_Day))] [])),(1,some (.foc 6 [] [.r (.v (.int .i64 a1_Thing)),.r (.v (.int .i64 a1_At)),.r (.v (.int .i64 a1_Kind)),.r (.v (.string a1_Place)),.r (.v (.int .i64 a1_Trip_Leg)),.r (.v (.int .i64 a1_Trip_Day))] []))]}:St)) 2 (fun y=>o1=LR.out y) ?_ ?_ ?_
 ·refine Wk.of [(0,some 0),(1,some 16),(2,some 240),(3,some 464)] rfl rfl ?_ ?_
  ·cbv;all_goals exact⟨⟨_,rfl,rfl⟩,⟨_,rfl,rfl⟩,⟨_,rfl,rfl⟩,⟨_,rfl,rfl⟩,⟨_,rfl,rfl⟩,trivial⟩
  cbv;all_goals exact⟨⟨_,rfl,_,rfl,rfl,rfl,rfl,rfl,rfl,rfl,trivial⟩,⟨_,rfl,_,rfl,rfl,rfl,rfl,rfl,rfl,rfl,trivial⟩,⟨_,rfl,rfl⟩,⟨_,rfl,rfl⟩,trivial⟩
 ·rintro⟨⟨n1,v1⟩,hn1,hi1,h_1⟩ hq1;try dsimp only at hn1 hi1 h_1
  clear hq1;cbv;rcases n1 with _|n1
  ·have hb1:lt v1 (int (dlen (d_I64 l1)))=false:=bc hg hn1;rw[bj] at h_1;try rw[←hg] at h_1
   try rw[←ht] at h_1
   try dsimp only at h_1
   rw[hb1];cbv;refine⟨(),Wk.of [(0,some 0),(1,some 1)] rfl rfl ?_ ?_,(Option.some.inj h_1).symm⟩
   ·cbv;all_goals exact⟨⟨_,rfl,rfl⟩,⟨_,rfl,rfl⟩,trivial⟩
   cbv;all_goals exact⟨⟨_,rfl,_,rfl,rfl,rfl,rfl,rfl,rfl,rfl,trivial⟩,⟨_,rfl,_,rfl,rfl,rfl,rfl,rfl,rfl,rfl,trivial⟩,trivial⟩
  have hb1:lt v1 (int (dlen (d_I64 l1)))=true:=bz hg hn1;have hl1:=dj hn1;have hs1:=cr hg hn1 hi1 hB1 (by decide);rw[bj] at h_1;try rw[←hg] at h_1
  try rw[←ht] at h_1
  try dsimp only at h_1
  rw[hb1];cbv;refine AStep.mk (dV hg hi1 hl1) ?_;cbv;obtain⟨x1,hx1,h_1⟩:=aP h_1;try dsimp only at h_1
  refine AGet.mk _ (bt hg ht hx1) ?_;cbv;obtain⟨hc1,h_1⟩:=aj h_1;refine AStep.mk hc1 ?_;cbv;obtain⟨x2,hx2,h_1⟩:=aP h_1;try dsimp only at h_1
  refine AGet.mk _ (bt hg ht hx2) ?_;cbv
  cases hb2:(lt x1 x2)
  rotate_left
  ·rw[ab hb2] at h_1;cbv;obtain rfl:=Option.some.inj h_1;try dsimp only[lr,lrL,lrp,a9] at h
   obtain rfl:=Option.some.inj h;exact ARet.mk trivial hX.symm
  rw[aa hb2] at h_1;cbv;refine AStep.mk (dV hg hi1 hl1) ?_;cbv;refine AGet.mk _ (bt hg ht hx1) ?_;cbv;obtain⟨hc2,h_1⟩:=aj h_1;refine AStep.mk hc2 ?_;cbv;refine AGet.mk _ (bt hg ht hx2) ?_;cbv
  cases hb3:(lt x2 x1)
  rotate_left
  ·rw[ab hb3] at h_1;cbv;obtain rfl:=Option.some.inj h_1;try dsimp only[lr,lrL,lrp,a9] at h
   obtain rfl:=Option.some.inj h;exact ARet.mk trivial hX.symm
  rw[aa hb3] at h_1;cbv;try rw[hg] at h_1
  try rw[ht] at h_1
  refine⟨⟨(n1,(wrap .i64 (add v1 1))),hs1.1,hs1.2,h_1⟩,Wk.of [(0,some 0),(1,some 1),(2,some 2),(3,some 3)] rfl rfl ?_ ?_,Nat.lt_succ_self _⟩
  ·cbv;all_goals exact⟨⟨_,rfl,rfl⟩,⟨_,rfl,rfl⟩,⟨_,rfl,rfl⟩,⟨_,rfl,rfl⟩,⟨_,rfl,rfl⟩,trivial⟩
  cbv;all_goals exact⟨⟨_,rfl,_,rfl,rfl,rfl,rfl,rfl,rfl,rfl,trivial⟩,⟨_,rfl,_,rfl,rfl,rfl,rfl,rfl,rfl,rfl,trivial⟩,⟨_,rfl,rfl⟩,⟨_,rfl,rfl⟩,trivial⟩
 rintro _ hy1;replace hy1:=hy1.symm;subst hy1;try dsimp only[lr,lrL,lrp,a9] at h
 cbv
 cases hb4:(slt a0_Place a1_Place)
 rotate_left
 ·rw[ab hb4] at h;cbv;obtain rfl:=Option.some.inj h;exact ARet.mk trivial hX.symm
 rw[aa hb4] at h;cbv
 cases hb5:(sle a0_Place a1_Place)
 rotate_left
 ·rw[ab hb5] at h;cbv;obtain rfl:=Option.some.inj h;exact ARet.mk trivial hX.symm
 rw[aa hb5] at h;cbv;obtain rfl:=Option.some.inj h;exact ARet.mk trivial hX.symm
def ir52:J:=js [jq 2 (.box 0),jq 4 (.mv (.k (.c (.n 6))))] [1,2] (js [jq 8 (.bsl 6 []),jm 5 8] [1,2,5] (.seq (js [jm 6 (ki 0)] [1,2,5,6] (.bl 0 (.seq (js [jm 9 6,jm 10 1,jq 11 (.len false 10),jb 12 .lss .i 9 11,jm 13 12,ju 14 13 (.mv 6),ju 15 13 (.bin .lss .i 14 (ki 200)),jq 16 (.pick 13 15 kf)] [1,2,5,6,16] (.cond 16 .skip (.exit 0))) (.seq (.block 1 (.seq (.seq (.reg (some [[],[],[],[1,2],[1,2,3],[0,1,2,3,4],[0,1,2,3,4,5]]) [jl 19 3 2,jm 20 1,jm 21 6,ja 22 6 20 21,jl 23 6 22,jc 24 73 [19,23],jq 25 (.not 24)] [1,2,5,6,25]) (.cond 25 (.exit 1) .skip)) (js [jm 7 (ki 0)] [1,2,5,6,7] (.seq (.bl 2 (.seq (.seq (.reg (some [[],[],[1],[0,1,2],[0,1,2,3],[0,1,2,3,4],[0,1,2,3,4],[0,1,2,3,4,5,6],[0,1,2,3,4,5,6,7],[0,1,2,3,4],[0,1,2,3,4],[0,1,2,3,4,9,10],[0,1,2,3,4,9,10,11],[0,1,2,3,4,5,6,7,8,9,10,11,12],[0,1,2,3,4,5,6,7,8,9,10,11,12,13],[0,1,2,3,4,5,6,7,8,9,10,11,12,13,14]]) [jm 26 7,jm 27 5,jq 28 (.len false 27),jb 29 .lss .i 26 28,jm 30 29,ju 31 30 (.mv 5),ju 32 30 (.mv 7),ju 33 30 (.ia 6 31 32),ju 34 30 (.ld true 6 33),ju 35 30 (.mv 1),ju 36 30 (.mv 6),ju 37 30 (.ia 6 35 36),ju 38 30 (.ld true 6 37),ju 39 30 (.call 74 true [34,38]),ju 40 30 (.bin .lss .i 39 (ki 0)),jq 41 (.pick 30 40 kf)] [1,2,5,6,7,41]) (.cond 41 .skip (.exit 2))) (.block 3 (.reg none [jm 42 7,jb 43 .add .i 42 (ki 1),jm 7 43] [1,2,5,6,7])))) (.seq (.reg (some [[],[],[1],[0,1,2],[0,1,2,3],[0,1,2,3,4],[0,1,2,3,4],[0,1,2,3,4,5,6],[0,1,2,3,4,5,6,7],[0,1,2,3,4],[0,1,2,3,4],[0,1,2,3,4,9,10],[0,1,2,3,4,9,10,11],[0,1,2,3,4,5,6,7,8,9,10,11,12],[0,1,2,3,4,5,6,7,8,9,10,11,12,13]]) [jm 44 7,jm 45 5,jq 46 (.len false 45),jb 47 .eql .i 44 46,jm 48 47,jv 49 48 (.mv 5),jv 50 48 (.mv 7),jv 51 48 (.ia 6 49 50),jv 52 48 (.ld true 6 51),jv 53 48 (.mv 1),jv 54 48 (.mv 6),jv 55 48 (.ia 6 53 54),jv 56 48 (.ld true 6 55),jv 57 48 (.eqs true [.i,.i,.i,.s,.i,.i] 52 56),jq 58 (.pick 48 kt 57)] [1,2,5,6,7,58]) (.cond 58 (.reg (some [[],[],[],[1,2],[0,1,2,3],[],[],[5,6],[5,6,7],[5,6,7,8],[0,1,2,3,4,5,6,7,8,9],[],[],[11,12],[0,1,2,3,4,5,6,7,8,9,10,11,12,13],[0,1,2,3,4,5,6,7,8,9,10,11,12,13,14]]) [jq 59 (.bsl 6 []),jm 60 5,jm 61 7,jq 62 (.sl 6 60 none (some 61)),jq 63 (.app 6 56 false 59 62),jm 64 1,jm 65 6,ja 66 6 64 65,jl 67 6 66,jq 68 (.bsl 6 [67]),jq 69 (.app 6 56 true 63 68),jm 70 5,jm 71 7,jq 72 (.sl 6 70 (some 71) none),jq 73 (.app 6 56 false 69 72),jm 5 73] [1,2,5,6]) .skip)))))) (.reg none [jm 17 6,jb 18 .add .i 17 (ki 1),jm 6 18] [1,2,5,6]))))) (js [jm 74 5,jm 4 74] [4] .ret)))
def rv52:List RV:=[.t 4]
def cf (g:G) (t:TE) (w1:List Scan) (z1:Scan):Nat→Int→Option Int
 |0,v2=>
  some v2
 |n2+1,v2=>
  gt w1 (g.nat v2) fun x2=>
  cl (dR g t (Scan.mk x2.Thing x2.At x2.Kind x2.Place (Trip.mk x2.Trip.Leg x2.Trip.Day)) (Scan.mk z1.Thing z1.At z1.Kind z1.Place (Trip.mk z1.Trip.Leg z1.Trip.Day))) fun x3=>
  br (g.lt x3 0)
  (
   cf g t w1 z1 n2 (g.wrap .i64 (g.add v2 1)))
  (
   some v2)
def bn (g:G) (t:TE) (a0:Network):List Scan→Int→List Scan→Option (List Scan)
 |[],v1,w1=>
  some w1
 |z1::ls1,v1,w1=>
  br (g.lt v1 200)
  (
   cl (kz g t a0 (Scan.mk z1.Thing z1.At z1.Kind z1.Place (Trip.mk z1.Trip.Leg z1.Trip.Day))) fun x1=>
   br x1
   (
    gd (((g.int (g.dlen (t.d_Scan w1)))≤9223372036854775807))<|
    cl (cf g t w1 z1 (ap 0 (g.int (g.dlen (t.d_Scan w1)))) 0) fun y1=>
    br (g.eq y1 (g.int (g.dlen (t.d_Scan w1))))
    (
     lP ([]) fun(l2:List Scan)=>
     gd (((0:Int)≤0∧0≤y1∧y1≤(((g.dlen (t.d_Scan w1)):Nat):Int)))<|
     gd (((g.nat 0)+(g.nsub (g.nat y1) (g.nat 0))≤w1.length))<|
     gd (((l2.length+(List.take (g.nsub (g.nat y1) (g.nat 0)) (List.drop (g.nat 0) w1)).length)*56≤70368744177664))<|
     lP (l2++(List.take (g.nsub (g.nat y1) (g.nat 0)) (List.drop (g.nat 0) w1))) fun(l3:List Scan)=>
     lP ([(Scan.mk z1.Thing z1.At z1.Kind z1.Place (Trip.mk z1.Trip.Leg z1.Trip.Day))]) fun(l4:List Scan)=>
     gd (((l3.length+l4.length)*56≤70368744177664))<|
     lP (l3++l4) fun(l5:List Scan)=>
     gd (((0:Int)≤y1∧y1≤(g.int (g.dlen (t.d_Scan w1)))∧(g.int (g.dlen (t.d_Scan w1)))≤(((g.dlen (t.d_Scan w1)):Nat):Int)))<|
     gd (((g.nat y1)+(g.nsub (g.nat (g.int (g.dlen (t.d_Scan w1)))) (g.nat y1))≤w1.length))<|
     gd (((l5.length+(List.take (g.nsub (g.nat (g.int (g.dlen (t.d_Scan w1)))) (g.nat y1)) (List.drop (g.nat y1) w1)).length)*56≤70368744177664))<|
     lP (l5++(List.take (g.nsub (g.nat (g.int (g.dlen (t.d_Scan w1)))) (g.nat y1)) (List.drop (g.nat y1) w1))) fun(l6:List Scan)=>
     bn g t a0 ls1 (g.wrap .i64 (g.add v1 1)) l6)
    (
     gd (((0:Int)≤y1∧y1<(((g.dlen (t.d_Scan w1)):Nat):Int)))<|
     gt w1 (g.nat y1) fun x4=>
     br (g.all [(g.eq x4.Thing z1.Thing),(g.eq x4.At z1.At),(g.eq x4.Kind z1.Kind),(g.seq x4.Place z1.Place),(g.eq x4.Trip.Leg z1.Trip.Leg),(g.eq x4.Trip.Day z1.Trip.Day)])
     (
      bn g t a0 ls1 (g.wrap .i64 (g.add v1 1)) w1)
     (
      lP ([]) fun(l7:List Scan)=>
      gd (((0:Int)≤0∧0≤y1∧y1≤(((g.dlen (t.d_Scan w1)):Nat):Int)))<|
      gd (((g.nat 0)+(g.nsub (g.nat y1) (g.nat 0))≤w1.length))<|
      gd (((l7.length+(List.take (g.nsub (g.nat y1) (g.nat 0)) (List.drop (g.nat 0) w1)).length)*56≤70368744177664))<|
      lP (l7++(List.take (g.nsub (g.nat y1) (g.nat 0)) (List.drop (g.nat 0) w1))) fun(l8:List Scan)=>
      lP ([(Scan.mk z1.Thing z1.At z1.Kind z1.Place (Trip.mk z1.Trip.Leg z1.Trip.Day))]) fun(l9:List Scan)=>
      gd (((l8.length+l9.length)*56≤70368744177664))<|
      lP (l8++l9) fun(l10:List Scan)=>
      gd (((0:Int)≤y1∧y1≤(g.int (g.dlen (t.d_Scan w1)))∧(g.int (g.dlen (t.d_Scan w1)))≤(((g.dlen (t.d_Scan w1)):Nat):Int)))<|
      gd (((g.nat y1)+(g.nsub (g.nat (g.int (g.dlen (t.d_Scan w1)))) (g.nat y1))≤w1.length))<|
      gd (((l10.length+(List.take (g.nsub (g.nat (g.int (g.dlen (t.d_Scan w1)))) (g.nat y1)) (List.drop (g.nat y1) w1)).length)*56≤70368744177664))<|
      lP (l10++(List.take (g.nsub (g.nat (g.int (g.dlen (t.d_Scan w1)))) (g.nat y1)) (List.drop (g.nat y1) w1))) fun(l11:List Scan)=>
      bn g t a0 ls1 (g.wrap .i64 (g.add v1 1)) l11)))
   (
    bn g t a0 ls1 (g.wrap .i64 (g.add v1 1)) w1))
  (
   some w1)
def gP (g:G) (t:TE) (a0:Network) (a1:List Scan):Option (List Scan):=
 lP ([]) fun(l1:List Scan)=>
 cl (bn g t a0 a1 0 l1) fun y2=>
 some y2
theorem rK {g:G} {t:TE} {a0:Network} {a1:List Scan} {r:List Scan} (hg:g=G.real) (ht:t=TE.real) (h:gP g t a0 a1=some r):Fn Tryz.prog 52 [.g (Network.rs t a0),.c (.s 6 (t.r_Scan a1))] (.c (.o 6 (t.d_Scan r))):=by
 obtain⟨X,hX⟩:=aE (.c (.o 6 (t.d_Scan r)):X);rw[←hX];refine aB (rvs:=rv52) (j:=ir52) Tryz.func52 rfl (by kernel_rfl) (nb rfl) (by kernel_rfl) af ?_;intro g2 F hg2 hF;obtain rfl:g2=g:=hg2.unique.trans hg.symm;clear hg2;obtain⟨wrap,lt,_,eq,_,_,_,_,_,_,_,_,int,add,_,_,_,seq,_,_,_,llen,_,_,dlen,_,_,_,_,_,_,_,_,all⟩:=g2;obtain⟨_,_,r_Leg,_,r_I64,_,r_Scan,d_Scan⟩:=t
 obtain⟨a0_Legs,a0_Off,a0_Change⟩:=a0;unfold gP at h;try dsimp only at h
 cbv;obtain⟨l1,hl1,h⟩:=ah h;try dsimp only at h
 refine ANew.mk (d_Scan l1) (dlen (d_Scan l1)) (by rw[←hl1];exact aN hg ht []) (by rw[←hl1];exact aC hg ht []) ?_;cbv;obtain⟨o1,ho1,h⟩:=ac h;try dsimp only at h
 try rw[hg] at ho1
 try rw[ht] at ho1
 refine ABL.mk {p:Nat×Int×List Scan//p.1≤a1.length∧p.2.1=((p.1:Nat):Int)∧bn G.real TE.real (Network.mk a0_Legs a0_Off a0_Change) (List.drop p.1 a1) p.2.1 p.2.2=some o1} (fun⟨⟨k1,v1,w1⟩,_⟩=>({sl:=[(1,.c (.r (.s 6 (r_Scan a1)))),(2,.c (.p 0 3 0 0)),(5,.c (.f 1 6 0 (dlen (d_Scan w1)))),(6,.c (.r (.v (.int .i64 v1))))],tab:=[(0,some (.foc 3 [] [.r (.s 6 (r_Leg a0_Legs)),.r (.s 1 (r_I64 a0_Off)),.r (.v (.int .i64 a0_Change))] [])),(1,some (.arr 6 (d_Scan w1)))]}:St)) 2 (fun p=>a1.length-p.1.1) ⟨(0,0,l1),Nat.zero_le _,rfl,ho1⟩ (List Scan) (fun y2=>({sl:=[(5,.c (.f 0 6 0 (dlen (d_Scan y2))))],tab:=[(0,some (.arr 6 (d_Scan y2)))]}:St)) 1 (fun y=>o1=y) ?_ ?_ ?_
 ·refine Wk.of [(0,some 0),(1,some 32)] rfl rfl ?_ ?_
  ·cbv;all_goals exact⟨⟨_,rfl,rfl⟩,⟨_,rfl,rfl⟩,⟨_,rfl,rfl⟩,⟨_,rfl,rfl⟩,trivial⟩
  cbv;all_goals exact⟨⟨_,rfl,_,rfl,rfl,rfl,rfl,trivial⟩,⟨_,rfl,rfl⟩,trivial⟩
 ·rintro⟨⟨k1,v1,w1⟩,hk1,hi1,h_1⟩ hq1;have hm1:=(hq1.1 1 _ _ rfl);try dsimp only at hk1 hi1 h_1
  clear hq1;cbv
  by_cases hc1_:k1<a1.length
  ·have hb1:lt v1 (llen (r_Scan a1))=true:=lV hg ht hi1 hc1_;have hs1:=qv hg ht hi1 hc1_ hm1;obtain⟨z1,hz1⟩:=aW hc1_;rw[aD hz1] at h_1;rw[bn] at h_1;obtain⟨z1_Thing,z1_At,z1_Kind,z1_Place,⟨z1_Trip_Leg,z1_Trip_Day⟩⟩:=z1;try rw[←hg] at h_1
   try rw[←ht] at h_1
   try dsimp only at h_1
   rw[hb1];cbv;iterate 2 try(rw[hb1];cbv)
   cases hb2:(lt v1 200)
   ·rw[aa hb2] at h_1;cbv;refine⟨w1,Wk.of [(0,some 1)] rfl rfl ?_ ?_,(Option.some.inj h_1).symm⟩
    ·cbv;all_goals exact⟨⟨_,rfl,rfl⟩,trivial⟩
    cbv;all_goals exact⟨⟨_,rfl,rfl⟩,trivial⟩
   rw[ab hb2] at h_1;cbv;refine AStep.mk (f8 hi1) ?_;cbv;refine AGet.mk _ (fP hg ht hi1 hz1) ?_;cbv;obtain⟨x1,hx1,h_1⟩:=ac h_1;try dsimp only at h_1
   refine ACall.mk _ _ rfl (hF _ _ _ (xp hg ht hx1)) (.inl rfl) (nb rfl) ?_;cbv
   cases hb3:x1
   ·rw[aa hb3] at h_1;cbv;try rw[hg] at h_1
    try rw[ht] at h_1
    refine⟨⟨(k1+1,(wrap .i64 (add v1 1)),w1),hc1_,hs1,h_1⟩,Wk.of [(0,some 0),(1,some 1)] rfl rfl ?_ ?_,a7 hc1_⟩
    ·cbv;all_goals exact⟨⟨_,rfl,rfl⟩,⟨_,rfl,rfl⟩,⟨_,rfl,rfl⟩,⟨_,rfl,rfl⟩,trivial⟩
    cbv;all_goals exact⟨⟨_,rfl,_,rfl,rfl,rfl,rfl,trivial⟩,⟨_,rfl,rfl⟩,trivial⟩
   rw[ab hb3] at h_1;cbv;obtain⟨hB2,h_1⟩:=aj h_1;obtain⟨o2,ho2,h_1⟩:=ac h_1;try dsimp only at h_1
   try rw[hg] at ho2
   try rw[ht] at ho2
   refine ABL.mk {p:Nat×Int//p.1=ap p.2 (int (dlen (d_Scan w1)))∧0≤p.2∧cf G.real TE.real w1 (Scan.mk z1_Thing z1_At z1_Kind z1_Place (Trip.mk z1_Trip_Leg z1_Trip_Day)) p.1 p.2=some o2} (fun⟨⟨n2,v2⟩,_⟩=>({sl:=[(1,.c (.r (.s 6 (r_Scan a1)))),(2,.c (.p 0 3 0 0)),(5,.c (.f 1 6 0 (dlen (d_Scan w1)))),(6,.c (.r (.v (.int .i64 v1)))),(7,.c (.r (.v (.int .i64 v2))))],tab:=[(0,some (.foc 3 [] [.r (.s 6 (r_Leg a0_Legs)),.r (.s 1 (r_I64 a0_Off)),.r (.v (.int .i64 a0_Change))] [])),(1,some (.arr 6 (d_Scan w1)))]}:St)) 2 (fun p=>p.1.1) ⟨(ap 0 (int (dlen (d_Scan w1))),0),rfl,Int.le_refl _,ho2⟩ (Int) (fun y1=>({sl:=[(1,.c (.r (.s 6 (r_Scan a1)))),(2,.c (.p 0 3 0 0)),(5,.c (.f 1 6 0 (dlen (d_Scan w1)))),(6,.c (.r (.v (.int .i64 v1)))),(7,.c (.r (.v (.int .i64 y1))))],tab:=[(0,some (.foc 3 [] [.r (.s 6 (r_Leg a0_Legs)),.r (.s 1 (r_I64 a0_Off)),.r (.v (.int .i64 a0_Change))] [])),(1,some (.arr 6 (d_Scan w1)))]}:St)) 2 (fun y=>o2=y) ?_ ?_ ?_
   ·refine Wk.of [(0,some 0),(1,some 1)] rfl rfl ?_ ?_
    ·cbv;all_goals exact⟨⟨_,rfl,rfl⟩,⟨_,rfl,rfl⟩,⟨_,rfl,rfl⟩,⟨_,rfl,rfl⟩,⟨_,rfl,rfl⟩,trivial⟩
    cbv;all_goals exact⟨⟨_,rfl,_,rfl,rfl,rfl,rfl,trivial⟩,⟨_,rfl,rfl⟩,trivial⟩
   ·rintro⟨⟨n2,v2⟩,hn2,hi2,h_2⟩ hq2;try dsimp only at hn2 hi2 h_2
    clear hq2;cbv;rcases n2 with _|n2
    ·have hb4:lt v2 (int (dlen (d_Scan w1)))=false:=bc hg hn2;rw[cf] at h_2;try rw[←hg] at h_2
     try rw[←ht] at h_2
     try dsimp only at h_2
     rw[hb4];cbv;iterate 10 try(rw[hb4];cbv)
     refine⟨v2,Wk.of [(0,some 0),(1,some 1)] rfl rfl ?_ ?_,(Option.some.inj h_2).symm⟩
     ·cbv;all_goals exact⟨⟨_,rfl,rfl⟩,⟨_,rfl,rfl⟩,⟨_,rfl,rfl⟩,⟨_,rfl,rfl⟩,⟨_,rfl,rfl⟩,trivial⟩
     cbv;all_goals exact⟨⟨_,rfl,_,rfl,rfl,rfl,rfl,trivial⟩,⟨_,rfl,rfl⟩,trivial⟩
    have hb4:lt v2 (int (dlen (d_Scan w1)))=true:=bz hg hn2;have hl2:=dj hn2;have hs2:=cr hg hn2 hi2 hB2 (by decide);rw[cf] at h_2;try rw[←hg] at h_2
    try rw[←ht] at h_2
    try dsimp only at h_2
    rw[hb4];cbv;iterate 2 try(rw[hb4];cbv)
    refine AStep.mk (dV hg hi2 hl2) ?_;cbv;try(rw[hb4];cbv)
    obtain⟨x2,hx2,h_2⟩:=aP h_2;obtain⟨x2_Thing,x2_At,x2_Kind,x2_Place,⟨x2_Trip_Leg,x2_Trip_Day⟩⟩:=x2;try dsimp only at h_2
    refine AGet.mk _ (bo hg ht hx2) ?_;cbv;iterate 3 try(rw[hb4];cbv)
    refine AStep.mk (f8 hi1) ?_;cbv;refine AGet.mk _ (fP hg ht hi1 hz1) ?_;cbv;iterate 2 try(rw[hb4];cbv)
    obtain⟨x3,hx3,h_2⟩:=ac h_2;try dsimp only at h_2
    refine ACall.mk _ _ rfl (hF _ _ _ (nS hg ht hx3)) (.inl rfl) (nb rfl) ?_;cbv;iterate 2 try(rw[hb4];cbv)
    cases hb5:(lt x3 0)
    ·rw[aa hb5] at h_2;cbv;refine⟨v2,Wk.of [(0,some 0),(1,some 1)] rfl rfl ?_ ?_,(Option.some.inj h_2).symm⟩
     ·cbv;all_goals exact⟨⟨_,rfl,rfl⟩,⟨_,rfl,rfl⟩,⟨_,rfl,rfl⟩,⟨_,rfl,rfl⟩,⟨_,rfl,rfl⟩,trivial⟩
     cbv;all_goals exact⟨⟨_,rfl,_,rfl,rfl,rfl,rfl,trivial⟩,⟨_,rfl,rfl⟩,trivial⟩
    rw[ab hb5] at h_2;cbv;try rw[hg] at h_2
    try rw[ht] at h_2
    refine⟨⟨(n2,(wrap .i64 (add v2 1))),hs2.1,hs2.2,h_2⟩,Wk.of [(0,some 0),(1,some 1)] rfl rfl ?_ ?_,Nat.lt_succ_self _⟩
    ·cbv;all_goals exact⟨⟨_,rfl,rfl⟩,⟨_,rfl,rfl⟩,⟨_,rfl,rfl⟩,⟨_,rfl,rfl⟩,⟨_,rfl,rfl⟩,trivial⟩
    cbv;all_goals exact⟨⟨_,rfl,_,rfl,rfl,rfl,rfl,trivial⟩,⟨_,rfl,rfl⟩,trivial⟩
   rintro y1 hy2;replace hy2:=hy2.symm;subst hy2;try dsimp only[lr,lrL,lrp,a9] at h_1
   cbv
   cases hb6:(eq y1 (int (dlen (d_Scan w1))))
   rotate_left
   ·rw[ab hb6] at h_1;cbv;iterate 9 try(rw[hb6];cbv)
    obtain⟨l2,hl2,h_1⟩:=ah h_1;try dsimp only at h_1
    refine ANew.mk (d_Scan l2) (dlen (d_Scan l2)) (by rw[←hl2];exact aN hg ht []) (by rw[←hl2];exact aC hg ht []) ?_;cbv;obtain⟨hc1,h_1⟩:=aj h_1;refine AStep.mk hc1 ?_;cbv;obtain⟨hc6,h_1⟩:=aj h_1;obtain⟨hc7,h_1⟩:=aj h_1;refine AStep.mk ⟨(eY hg ht hc6),(aA hg ht (ae hg ht _) (bE hg ht _ _ _) hc7)⟩ ?_;cbv;obtain⟨l3,hl3,h_1⟩:=ah h_1;try dsimp only at h_1
    refine ANew.mk (d_Scan l3) (dlen (d_Scan l3)) (by rw[←hl3];exact ba hg ht (ae hg ht _) (bE hg ht _ _ _)) (by rw[←hl3];exact aT hg ht (ae hg ht _) (bE hg ht _ _ _)) ?_;cbv;refine AStep.mk (f8 hi1) ?_;cbv;refine AGet.mk _ (fP hg ht hi1 hz1) ?_;cbv;obtain⟨l4,hl4,h_1⟩:=ah h_1;try dsimp only at h_1
    refine ANew.mk (d_Scan l4) (dlen (d_Scan l4)) (by rw[←hl4];exact aN hg ht [(Scan.mk z1_Thing z1_At z1_Kind z1_Place (Trip.mk z1_Trip_Leg z1_Trip_Day))]) (by rw[←hl4];exact aC hg ht [(Scan.mk z1_Thing z1_At z1_Kind z1_Place (Trip.mk z1_Trip_Leg z1_Trip_Day))]) ?_;cbv;obtain⟨hc5,h_1⟩:=aj h_1;refine AStep.mk ⟨⟨rfl,(ae hg ht _)⟩,(aA hg ht (ae hg ht _) rfl hc5)⟩ ?_;cbv;obtain⟨l5,hl5,h_1⟩:=ah h_1;try dsimp only at h_1
    refine ANew.mk (d_Scan l5) (dlen (d_Scan l5)) (by rw[←hl5];exact ba hg ht (ae hg ht _) rfl) (by rw[←hl5];exact aT hg ht (ae hg ht _) rfl) ?_;cbv;obtain⟨hc2,h_1⟩:=aj h_1;refine AStep.mk hc2 ?_;cbv;obtain⟨hc3,h_1⟩:=aj h_1;obtain⟨hc4,h_1⟩:=aj h_1;refine AStep.mk ⟨(eY hg ht hc3),(aA hg ht (ae hg ht _) (bE hg ht _ _ _) hc4)⟩ ?_;cbv;obtain⟨l6,hl6,h_1⟩:=ah h_1;try dsimp only at h_1
    refine ANew.mk (d_Scan l6) (dlen (d_Scan l6)) (by rw[←hl6];exact ba hg ht (ae hg ht _) (bE hg ht _ _ _)) (by rw[←hl6];exact aT hg ht (ae hg ht _) (bE hg ht _ _ _)) ?_;cbv;try rw[hg] at h_1
    try rw[ht] at h_1
    refine⟨⟨(k1+1,(wrap .i64 (add v1 1)),l6),hc1_,hs1,h_1⟩,Wk.of [(0,some 0),(1,some 466)] rfl rfl ?_ ?_,a7 hc1_⟩
    ·cbv;all_goals exact⟨⟨_,rfl,rfl⟩,⟨_,rfl,rfl⟩,⟨_,rfl,rfl⟩,⟨_,rfl,rfl⟩,trivial⟩
    cbv;all_goals exact⟨⟨_,rfl,_,rfl,rfl,rfl,rfl,trivial⟩,⟨_,rfl,rfl⟩,trivial⟩
   rw[aa hb6] at h_1;cbv;iterate 2 try(rw[hb6];cbv)
   obtain⟨hc8,h_1⟩:=aj h_1;refine AStep.mk hc8 ?_;cbv;try(rw[hb6];cbv)
   obtain⟨x4,hx4,h_1⟩:=aP h_1;obtain⟨x4_Thing,x4_At,x4_Kind,x4_Place,⟨x4_Trip_Leg,x4_Trip_Day⟩⟩:=x4;try dsimp only at h_1
   refine AGet.mk _ (bo hg ht hx4) ?_;cbv;iterate 3 try(rw[hb6];cbv)
   refine AStep.mk (f8 hi1) ?_;cbv;refine AGet.mk _ (fP hg ht hi1 hz1) ?_;cbv;iterate 3 try(rw[hb6];cbv)
   cases hb7:(all [(eq x4_Thing z1_Thing),(eq x4_At z1_At),(eq x4_Kind z1_Kind),(seq x4_Place z1_Place),(eq x4_Trip_Leg z1_Trip_Leg),(eq x4_Trip_Day z1_Trip_Day)])
   rotate_left
   ·rw[ab hb7] at h_1;cbv;try rw[hg] at h_1
    try rw[ht] at h_1
    refine⟨⟨(k1+1,(wrap .i64 (add v1 1)),w1),hc1_,hs1,h_1⟩,Wk.of [(0,some 0),(1,some 1)] rfl rfl ?_ ?_,a7 hc1_⟩
    ·cbv;all_goals exact⟨⟨_,rfl,rfl⟩,⟨_,rfl,rfl⟩,⟨_,rfl,rfl⟩,⟨_,rfl,rfl⟩,trivial⟩
    cbv;all_goals exact⟨⟨_,rfl,_,rfl,rfl,rfl,rfl,trivial⟩,⟨_,rfl,rfl⟩,trivial⟩
   rw[aa hb7] at h_1;cbv;obtain⟨l7,hl7,h_1⟩:=ah h_1;try dsimp only at h_1
   refine ANew.mk (d_Scan l7) (dlen (d_Scan l7)) (by rw[←hl7];exact aN hg ht []) (by rw[←hl7];exact aC hg ht []) ?_;cbv;obtain⟨hc9,h_1⟩:=aj h_1;refine AStep.mk hc9 ?_;cbv;obtain⟨hc14,h_1⟩:=aj h_1;obtain⟨hc15,h_1⟩:=aj h_1;refine AStep.mk ⟨(eY hg ht hc14),(aA hg ht (ae hg ht _) (bE hg ht _ _ _) hc15)⟩ ?_;cbv;obtain⟨l8,hl8,h_1⟩:=ah h_1;try dsimp only at h_1
   refine ANew.mk (d_Scan l8) (dlen (d_Scan l8)) (by rw[←hl8];exact ba hg ht (ae hg ht _) (bE hg ht _ _ _)) (by rw[←hl8];exact aT hg ht (ae hg ht _) (bE hg ht _ _ _)) ?_;cbv;refine AStep.mk (f8 hi1) ?_;cbv;refine AGet.mk _ (fP hg ht hi1 hz1) ?_;cbv;obtain⟨l9,hl9,h_1⟩:=ah h_1;try dsimp only at h_1
   refine ANew.mk (d_Scan l9) (dlen (d_Scan l9)) (by rw[←hl9];exact aN hg ht [(Scan.mk z1_Thing z1_At z1_Kind z1_Place (Trip.mk z1_Trip_Leg z1_Trip_Day))]) (by rw[←hl9];exact aC hg ht [(Scan.mk z1_Thing z1_At z1_Kind z1_Place (Trip.mk z1_Trip_Leg z1_Trip_Day))]) ?_;cbv;obtain⟨hc13,h_1⟩:=aj h_1;refine AStep.mk ⟨⟨rfl,(ae hg ht _)⟩,(aA hg ht (ae hg ht _) rfl hc13)⟩ ?_;cbv;obtain⟨l10,hl10,h_1⟩:=ah h_1;try dsimp only at h_1
   refine ANew.mk (d_Scan l10) (dlen (d_Scan l10)) (by rw[←hl10];exact ba hg ht (ae hg ht _) rfl) (by rw[←hl10];exact aT hg ht (ae hg ht _) rfl) ?_;cbv;obtain⟨hc10,h_1⟩:=aj h_1;refine AStep.mk hc10 ?_;cbv;obtain⟨hc11,h_1⟩:=aj h_1;obtain⟨hc12,h_1⟩:=aj h_1;refine AStep.mk ⟨(eY hg ht hc11),(aA hg ht (ae hg ht _) (bE hg ht _ _ _) hc12)⟩ ?_;cbv;obtain⟨l11,hl11,h_1⟩:=ah h_1;try dsimp only at h_1
   refine ANew.mk (d_Scan l11) (dlen (d_Scan l11)) (by rw[←hl11];exact ba hg ht (ae hg ht _) (bE hg ht _ _ _)) (by rw[←hl11];exact aT hg ht (ae hg ht _) (bE hg ht _ _ _)) ?_;cbv;try rw[hg] at h_1
   try rw[ht] at h_1
   refine⟨⟨(k1+1,(wrap .i64 (add v1 1)),l11),hc1_,hs1,h_1⟩,Wk.of [(0,some 0),(1,some 466)] rfl rfl ?_ ?_,a7 hc1_⟩
   ·cbv;all_goals exact⟨⟨_,rfl,rfl⟩,⟨_,rfl,rfl⟩,⟨_,rfl,rfl⟩,⟨_,rfl,rfl⟩,trivial⟩
   cbv;all_goals exact⟨⟨_,rfl,_,rfl,rfl,rfl,rfl,trivial⟩,⟨_,rfl,rfl⟩,trivial⟩
  have hb1:lt v1 (llen (r_Scan a1))=false:=kA hg ht hi1 hc1_;rw[List.drop_of_length_le (Nat.le_of_not_lt hc1_)] at h_1;rw[bn] at h_1;try rw[←hg] at h_1
  try rw[←ht] at h_1
  try dsimp only at h_1
  rw[hb1];cbv;iterate 2 try(rw[hb1];cbv)
  refine⟨w1,Wk.of [(0,some 1)] rfl rfl ?_ ?_,(Option.some.inj h_1).symm⟩
  ·cbv;all_goals exact⟨⟨_,rfl,rfl⟩,trivial⟩
  cbv;all_goals exact⟨⟨_,rfl,rfl⟩,trivial⟩
 rintro y2 hy1;replace hy1:=hy1.symm;subst hy1;try dsimp only[lr,lrL,lrp,a9] at h
 cbv;obtain rfl:=Option.some.inj h;exact ARet.mk ⟨rfl,(ae hg ht _)⟩ hX.symm
def ir28:J:=js [jq 3 (.box 0),jq 6 (.mv (.k (.c (.n 6))))] [1,2,3] (js [jq 10 (.bsl 6 []),jm 7 10] [1,2,3,7] (js [jl 11 3 3,jm 12 1,jc 13 52 [11,12],jm 8 13] [2,7,8] (.seq (js [jm 9 (ki 0)] [2,7,8,9] (.bl 0 (.seq (js [jm 14 9,jm 15 8,jq 16 (.len false 15),jb 17 .lss .i 14 16] [2,7,8,9,17] (.cond 17 .skip (.exit 0))) (.seq (.block 1 (js [jm 20 8,jm 21 9,ja 22 6 20 21,jf 23 0 22,jk 24 23,jm 25 2,jb 26 .eql .i 24 25] [2,7,8,9,26] (.cond 26 (.reg none [jm 27 7,jm 28 8,jm 29 9,ja 30 6 28 29,jl 31 6 30,jq 32 (.bsl 6 [31]),jq 33 (.app 6 56 true 27 32),jm 7 33] [2,7,8,9]) .skip))) (.reg none [jm 18 9,jb 19 .add .i 18 (ki 1),jm 9 19] [2,7,8,9]))))) (js [jm 34 7,jm 6 34] [6] .ret))))
def rv28:List RV:=[.t 6]
def cR (g:G) (t:TE) (a2:Int) (x1:List Scan):Nat→Int→List Scan→Option (List Scan)
 |0,v1,w1=>
  some w1
 |n1+1,v1,w1=>
  gt x1 (g.nat v1) fun x2=>
  br (g.eq x2.Thing a2)
  (
   lP ([(Scan.mk x2.Thing x2.At x2.Kind x2.Place (Trip.mk x2.Trip.Leg x2.Trip.Day))]) fun(l2:List Scan)=>
   gd (((w1.length+l2.length)*56≤70368744177664))<|
   lP (w1++l2) fun(l3:List Scan)=>
   cR g t a2 x1 n1 (g.wrap .i64 (g.add v1 1)) l3)
  (
   cR g t a2 x1 n1 (g.wrap .i64 (g.add v1 1)) w1)
def jL (g:G) (t:TE) (a0:Network) (a1:List Scan) (a2:Int):Option (List Scan):=
 lP ([]) fun(l1:List Scan)=>
 cl (gP g t a0 a1) fun x1=>
 gd (((g.int (g.dlen (t.d_Scan x1)))≤9223372036854775807))<|
 cl (cR g t a2 x1 (ap 0 (g.int (g.dlen (t.d_Scan x1)))) 0 l1) fun y1=>
 some y1
theorem vT {g:G} {t:TE} {a0:Network} {a1:List Scan} {a2:Int} {r:List Scan} (hg:g=G.real) (ht:t=TE.real) (h:jL g t a0 a1 a2=some r):Fn Tryz.prog 28 [.g (Network.rs t a0),.c (.s 6 (t.r_Scan a1)),.c (.v (.int .i64 a2))] (.c (.o 6 (t.d_Scan r))):=by
 obtain⟨X,hX⟩:=aE (.c (.o 6 (t.d_Scan r)):X);rw[←hX];refine aB (rvs:=rv28) (j:=ir28) Tryz.func28 rfl (by kernel_rfl) (nb rfl) (by kernel_rfl) af ?_;intro g2 F hg2 hF;obtain rfl:g2=g:=hg2.unique.trans hg.symm;clear hg2;obtain⟨wrap,lt,_,eq,_,_,_,_,_,_,_,_,int,add,_,_,_,_,_,_,_,_,_,_,dlen⟩:=g2;obtain⟨_,_,_,_,_,_,_,d_Scan⟩:=t
 obtain⟨a0_Legs,a0_Off,a0_Change⟩:=a0;unfold jL at h;try dsimp only at h
 cbv;obtain⟨l1,hl1,h⟩:=ah h;try dsimp only at h
 refine ANew.mk (d_Scan l1) (dlen (d_Scan l1)) (by rw[←hl1];exact aN hg ht []) (by rw[←hl1];exact aC hg ht []) ?_;cbv;obtain⟨x1,hx1,h⟩:=ac h;try dsimp only at h
 refine ACall.mk _ _ rfl (hF _ _ _ (rK hg ht hx1)) (.inl rfl) (nb rfl) ?_;cbv;obtain⟨hB1,h⟩:=aj h;obtain⟨o1,ho1,h⟩:=ac h;try dsimp only at h
 try rw[hg] at ho1
 try rw[ht] at ho1
 refine ABL.mk {p:Nat×Int×List Scan//p.1=ap p.2.1 (int (dlen (d_Scan x1)))∧0≤p.2.1∧cR G.real TE.real a2 x1 p.1 p.2.1 p.2.2=some o1} (fun⟨⟨n1,v1,w1⟩,_⟩=>({sl:=[(2,.c (.r (.v (.int .i64 a2)))),(7,.c (.f 0 6 0 (dlen (d_Scan w1)))),(8,.c (.f 1 6 0 (dlen (d_Scan x1)))),(9,.c (.r (.v (.int .i64 v1))))],tab:=[(0,some (.arr 6 (d_Scan w1))),(1,some (.arr 6 (d_Scan x1)))]}:St)) 2 (fun p=>p.1.1) ⟨(ap 0 (int (dlen (d_Scan x1))),0,l1),rfl,Int.le_refl _,ho1⟩ (List Scan) (fun y1=>({sl:=[(7,.c (.f 0 6 0 (dlen (d_Scan y1))))],tab:=[(0,some (.arr 6 (d_Scan y1)))]}:St)) 1 (fun y=>o1=y) ?_ ?_ ?_
 ·refine Wk.of [(0,some 32),(1,some 96)] rfl rfl ?_ ?_
  ·cbv;all_goals exact⟨⟨_,rfl,rfl⟩,⟨_,rfl,rfl⟩,⟨_,rfl,rfl⟩,⟨_,rfl,rfl⟩,trivial⟩
  cbv;all_goals exact⟨⟨_,rfl,rfl⟩,⟨_,rfl,rfl⟩,trivial⟩
 ·rintro⟨⟨n1,v1,w1⟩,hn1,hi1,h_1⟩ hq1;try dsimp only at hn1 hi1 h_1
  clear hq1;cbv;rcases n1 with _|n1
  ·have hb1:lt v1 (int (dlen (d_Scan x1)))=false:=bc hg hn1;rw[cR] at h_1;try rw[←hg] at h_1
   try rw[←ht] at h_1
   try dsimp only at h_1
   rw[hb1];cbv;refine⟨w1,Wk.of [(0,some 0)] rfl rfl ?_ ?_,(Option.some.inj h_1).symm⟩
   ·cbv;all_goals exact⟨⟨_,rfl,rfl⟩,trivial⟩
   cbv;all_goals exact⟨⟨_,rfl,rfl⟩,trivial⟩
  have hb1:lt v1 (int (dlen (d_Scan x1)))=true:=bz hg hn1;have hl1:=dj hn1;have hs1:=cr hg hn1 hi1 hB1 (by decide);rw[cR] at h_1;try rw[←hg] at h_1
  try rw[←ht] at h_1
  try dsimp only at h_1
  rw[hb1];cbv;refine AStep.mk (dV hg hi1 hl1) ?_;cbv;obtain⟨x2,hx2,h_1⟩:=aP h_1;obtain⟨x2_Thing,x2_At,x2_Kind,x2_Place,⟨x2_Trip_Leg,x2_Trip_Day⟩⟩:=x2;try dsimp only at h_1
  refine AGet.mk _ (bo hg ht hx2) ?_;cbv
  cases hb2:(eq x2_Thing a2)
  ·rw[aa hb2] at h_1;cbv;try rw[hg] at h_1
   try rw[ht] at h_1
   refine⟨⟨(n1,(wrap .i64 (add v1 1)),w1),hs1.1,hs1.2,h_1⟩,Wk.of [(0,some 0),(1,some 1)] rfl rfl ?_ ?_,Nat.lt_succ_self _⟩
   ·cbv;all_goals exact⟨⟨_,rfl,rfl⟩,⟨_,rfl,rfl⟩,⟨_,rfl,rfl⟩,⟨_,rfl,rfl⟩,trivial⟩
   cbv;all_goals exact⟨⟨_,rfl,rfl⟩,⟨_,rfl,rfl⟩,trivial⟩
  rw[ab hb2] at h_1;cbv;refine AStep.mk (dV hg hi1 hl1) ?_;cbv;refine AGet.mk _ (bo hg ht hx2) ?_;cbv;obtain⟨l2,hl2,h_1⟩:=ah h_1;try dsimp only at h_1
  refine ANew.mk (d_Scan l2) (dlen (d_Scan l2)) (by rw[←hl2];exact aN hg ht [(Scan.mk x2_Thing x2_At x2_Kind x2_Place (Trip.mk x2_Trip_Leg x2_Trip_Day))]) (by rw[←hl2];exact aC hg ht [(Scan.mk x2_Thing x2_At x2_Kind x2_Place (Trip.mk x2_Trip_Leg x2_Trip_Day))]) ?_;cbv;obtain⟨hc1,h_1⟩:=aj h_1;refine AStep.mk ⟨⟨rfl,(ae hg ht _)⟩,(aA hg ht (ae hg ht _) rfl hc1)⟩ ?_;cbv;obtain⟨l3,hl3,h_1⟩:=ah h_1;try dsimp only at h_1
  refine ANew.mk (d_Scan l3) (dlen (d_Scan l3)) (by rw[←hl3];exact ba hg ht (ae hg ht _) rfl) (by rw[←hl3];exact aT hg ht (ae hg ht _) rfl) ?_;cbv;try rw[hg] at h_1
  try rw[ht] at h_1
  refine⟨⟨(n1,(wrap .i64 (add v1 1)),l3),hs1.1,hs1.2,h_1⟩,Wk.of [(0,some 274),(1,some 1)] rfl rfl ?_ ?_,Nat.lt_succ_self _⟩
  ·cbv;all_goals exact⟨⟨_,rfl,rfl⟩,⟨_,rfl,rfl⟩,⟨_,rfl,rfl⟩,⟨_,rfl,rfl⟩,trivial⟩
  cbv;all_goals exact⟨⟨_,rfl,rfl⟩,⟨_,rfl,rfl⟩,trivial⟩
 rintro y1 hy1;replace hy1:=hy1.symm;subst hy1;try dsimp only[lr,lrL,lrp,a9] at h
 cbv;obtain rfl:=Option.some.inj h;exact ARet.mk ⟨rfl,(ae hg ht _)⟩ hX.symm
def ir32:J:=js [jm 2 (ki 0)] [0] (.seq (js [jm 3 0,jq 4 (.callm 29 true 3 [(ki 9)])] [0,4] (.cond 4 (js [jm 5 0,jq 6 (.callm 53 true 5 []),jm 2 6] [2] .ret) .skip)) (js [jm 7 0,jq 8 (.callm 15 true 7 [(ki 200)]),jb 9 .mul .i (ki 60) 8,jm 2 9] [2] .ret))
def rv32:List RV:=[.t 2]
def og (g:G) (t:TE) (a0:Cur):Option (Int×Cur):=
 cl (ct g t a0 9) fun x1=>
 br x1.1
 (
  cl (lH g t (Cur.mk x1.2.b x1.2.i x1.2.h)) fun x2=>
  some ((x2.1,(Cur.mk x2.2.b x2.2.i x2.2.h))))
 (
  cl (aG g t (Cur.mk x1.2.b x1.2.i x1.2.h) 200) fun x3=>
  some (((g.wrap .i64 (g.mul 60 x3.1)),(Cur.mk x3.2.b x3.2.i x3.2.h))))
theorem wy {g:G} {t:TE} {a0:Cur} {r:Int×Cur} (hg:g=G.real) (ht:t=TE.real) (h:og g t a0=some r):FnM Tryz.prog 32 (.p (Cur.ds t a0)) [] (.c (.r (.v (.int .i64 r.1)))) (.p (Cur.ds t r.2)):=by
 obtain⟨X,hX⟩:=aE (.c (.r (.v (.int .i64 r.1))):X);obtain⟨Y,hY⟩:=aE (.p (Cur.ds t r.2):AM);rw[←hX,←hY];refine eM (rvs:=rv32) (j:=ir32) Tryz.func32 rfl (by kernel_rfl) (nb rfl) (by kernel_rfl) af ?_;intro g2 F hg2 hF;obtain rfl:g2=g:=hg2.unique.trans hg.symm;clear hg2;obtain⟨_⟩:=g2;obtain⟨_⟩:=t
 obtain⟨a0_b,a0_i,a0_h⟩:=a0;unfold og at h;try dsimp only at h
 cbv;obtain⟨x1,hx1,h⟩:=ac h;obtain⟨x1_1,⟨x1_2_b,x1_2_i,x1_2_h⟩⟩:=x1;try dsimp only at h
 refine ACallM.mk _ _ _ _ rfl rfl (hF _ _ _ (cd hg ht hx1)) rfl (nb rfl) (nb rfl) ?_;cbv;have hb1:x1_1=true∨x1_1=false:=by cases x1_1<;>simp
 rcases hb1 with hb1|hb1
 ·rw[ab hb1] at h;have hK_:=h;subst hb1;have h:=hK_;clear hK_;cbv;obtain⟨x2,hx2,h⟩:=ac h;obtain⟨x2_1,⟨x2_2_b,x2_2_i,x2_2_h⟩⟩:=x2;try dsimp only at h
  refine ACallM.mk _ _ _ _ rfl rfl (hF _ _ _ (sV hg ht hx2)) rfl (nb rfl) (nb rfl) ?_;cbv;obtain rfl:=Option.some.inj h;exact ARetM.mk trivial hX.symm hY.symm
 rw[aa hb1] at h;have hK_:=h;subst hb1;have h:=hK_;clear hK_;cbv;obtain⟨x3,hx3,h⟩:=ac h;obtain⟨x3_1,⟨x3_2_b,x3_2_i,x3_2_h⟩⟩:=x3;try dsimp only at h
 refine ACallM.mk _ _ _ _ rfl rfl (hF _ _ _ (ay hg ht hx3)) rfl (nb rfl) (nb rfl) ?_;cbv;obtain rfl:=Option.some.inj h;exact ARetM.mk trivial hX.symm hY.symm
def ir14:J:=js [jq 2 (.alloc [.n 6,.n 1,.r (.v (.int .i64 0))]),jq 3 (.mv (.k (.c (.n 6)))),jm 4 (ki 0)] [0,2] (js [jm 8 0,jq 9 (.callm 26 false 8 [(ki 6)]),jq 5 (.alloc [.n 6,.n 1,.r (.v (.int .i64 0))]),jp (.st 3 5 9)] [0,2,5] (js [jm 10 0,jl 11 3 5,jq 12 (.callm 27 false 10 [11]),jm 6 12] [0,2,5,6] (js [jl 13 3 5,jm 14 6,jc 15 28 [13,14,(ki 1)],jm 7 15] [0,2,5,6,7] (.seq (js [jm 16 7,jq 17 (.len false 16),jb 18 .gtr .i 17 (ki 0),jm 19 18,ju 20 19 (.mv 0),ju 21 19 (.callm 29 true 20 [(ki 4)]),ju 22 19 (.not 21),jq 23 (.pick 19 22 kf)] [0,2,5,6,7,23] (.cond 23 (.seq (.reg (some [[],[],[],[],[],[4],[3,4,5],[2,3,4,5,6],[2,3,4,5,6,7],[2,3,4,5,6,7,8],[],[],[3,4,5,6,10,11],[2,3,4,5,6,7,8,9,10,11,12],[2,3,4,5,6,7,8,9,10,11,12,13],[0,2,3,4,5,6,7,8,9,10,11,12,13,14],[0,1,2,3,4,5,6,7,8,9,10,11,12,13,14,15],[0,1,2,3,4,5,6,7,8,9,10,11,12,13,14,15,16]]) [jl 24 3 5,jm 25 6,jm 26 7,jm 27 0,jm 28 7,jq 29 (.len false 28),jq 30 (.callm 15 true 27 [29]),ja 31 6 26 30,jf 32 1 31,jk 33 32,jm 34 0,jq 35 (.bslr 1 [(.k (V.i (-1))),(ki 0),(ki 1),(ki 30),(ki 300),(ki 2000)]),jq 36 (.callm 31 true 34 [35]),jb 37 .add .i 33 36,jc 38 30 [(ki 0),37],jp (.st 3 2 24),jm 3 25,jm 4 38] [2,3,4]) .ret) .skip)) (.seq (.reg (some [[],[],[],[2],[0,2,3],[0,1,2,3,4],[0,1,2,3,4,5]]) [jl 39 3 5,jm 40 6,jm 41 0,jq 42 (.callm 32 true 41 []),jp (.st 3 2 39),jm 3 40,jm 4 42] [2,3,4]) .ret)))))
def rv14:List RV:=[.c 2 true 3,.t 3,.t 4]
def kJ (g:G) (t:TE) (a0:Cur):Option (Network×(List Scan)×Int×Cur):=
 cl (kB g t a0 6) fun x1=>
 cl (kT g t (Cur.mk x1.2.b x1.2.i x1.2.h) (Network.mk x1.1.Legs x1.1.Off x1.1.Change)) fun x2=>
 cl (jL g t (Network.mk x1.1.Legs x1.1.Off x1.1.Change) x2.1 1) fun x3=>
 br (g.lt 0 (g.int (g.dlen (t.d_Scan x3))))
 (
  cl (ct g t (Cur.mk x2.2.b x2.2.i x2.2.h) 4) fun x4=>
  br x4.1
  (
   cl (og g t (Cur.mk x4.2.b x4.2.i x4.2.h)) fun x5=>
   some (((Network.mk x1.1.Legs x1.1.Off x1.1.Change),x2.1,x5.1,(Cur.mk x5.2.b x5.2.i x5.2.h))))
  (
   cl (aG g t (Cur.mk x4.2.b x4.2.i x4.2.h) (g.int (g.dlen (t.d_Scan x3)))) fun x6=>
   gd (((0:Int)≤x6.1∧x6.1<(((g.dlen (t.d_Scan x3)):Nat):Int)))<|
   gt x3 (g.nat x6.1) fun x7=>
   lP ([(-1),0,1,30,300,2000]) fun(l1:List Int)=>
   cl (eX g t (Cur.mk x6.2.b x6.2.i x6.2.h) l1) fun x8=>
   lP (qc g t 0 (g.wrap .i64 (g.add x7.At x8.1))) fun x9=>
   some (((Network.mk x1.1.Legs x1.1.Off x1.1.Change),x2.1,x9,(Cur.mk x8.2.b x8.2.i x8.2.h)))))
 (
  cl (og g t (Cur.mk x2.2.b x2.2.i x2.2.h)) fun x10=>
  some (((Network.mk x1.1.Legs x1.1.Off x1.1.Change),x2.1,x10.1,(Cur.mk x10.2.b x10.2.i x10.2.h))))
theorem wY {g:G} {t:TE} {a0:Cur} {r:Network×(List Scan)×Int×Cur} (hg:g=G.real) (ht:t=TE.real) (h:kJ g t a0=some r):FnM Tryz.prog 14 (.p (Cur.ds t a0)) [] (.u [.g ((Network.rs t r.1).map .r),.c (.r (.s 6 (t.r_Scan r.2.1))),.c (.r (.v (.int .i64 r.2.2.1)))]) (.p (Cur.ds t r.2.2.2)):=by
 obtain⟨X,hX⟩:=aE (.u [.g ((Network.rs t r.1).map .r),.c (.r (.s 6 (t.r_Scan r.2.1))),.c (.r (.v (.int .i64 r.2.2.1)))]:X);obtain⟨Y,hY⟩:=aE (.p (Cur.ds t r.2.2.2):AM);rw[←hX,←hY];refine eM (rvs:=rv14) (j:=ir14) Tryz.func14 rfl (by kernel_rfl) (nb rfl) (by kernel_rfl) af ?_;intro g2 F hg2 hF;obtain rfl:g2=g:=hg2.unique.trans hg.symm;clear hg2;obtain⟨_,lt,_,_,_,_,_,_,_,_,_,_,int,_,_,_,_,_,_,_,_,_,_,_,dlen,_,_,_,_,rda⟩:=g2
 obtain⟨_,_,r_Leg,d_Leg,r_I64,d_I64,r_Scan,d_Scan⟩:=t;obtain⟨a0_b,a0_i,a0_h⟩:=a0;have hrda_Leg:∀l,rda (d_Leg l)=r_Leg l:=yO hg ht;have hrda_I64:∀l,rda (d_I64 l)=r_I64 l:=t6 hg ht;have hrda_Scan:∀l,rda (d_Scan l)=r_Scan l:=u7 hg ht;unfold kJ at h;try dsimp only at h
 cbv;obtain⟨x1,hx1,h⟩:=ac h;obtain⟨⟨x1_1_Legs,x1_1_Off,x1_1_Change⟩,⟨x1_2_b,x1_2_i,x1_2_h⟩⟩:=x1;try dsimp only at h
 refine ACallMR.mk _ _ _ _ (.g [.r (.s 6 (r_Leg x1_1_Legs)),.r (.s 1 (r_I64 x1_1_Off)),.r (.v (.int .i64 x1_1_Change))]) rfl rfl (hF _ _ _ (xk hg ht hx1)) rfl (nb rfl) (nb rfl) (by cbv;(try simp only[hrda_I64,hrda_Leg])) ?_;cbv;obtain⟨x2,hx2,h⟩:=ac h;obtain⟨x2_1,⟨x2_2_b,x2_2_i,x2_2_h⟩⟩:=x2;try dsimp only at h
 refine ACallMR.mk _ _ _ _ (.c (.r (.s 6 (r_Scan x2_1)))) rfl rfl (hF _ _ _ (wJ hg ht hx2)) rfl (nb rfl) (nb rfl) (by cbv;(try simp only[hrda_Scan])) ?_;cbv;obtain⟨x3,hx3,h⟩:=ac h;try dsimp only at h
 refine ACall.mk _ _ rfl (hF _ _ _ (vT hg ht hx3)) (.inl rfl) (nb rfl) ?_;cbv
 cases hb1:(lt 0 (int (dlen (d_Scan x3))))
 ·rw[aa hb1] at h;cbv;iterate 3 try(rw[hb1];cbv)
  obtain⟨x10,hx10,h⟩:=ac h;obtain⟨x10_1,⟨x10_2_b,x10_2_i,x10_2_h⟩⟩:=x10;try dsimp only at h
  refine ACallM.mk _ _ _ _ rfl rfl (hF _ _ _ (wy hg ht hx10)) rfl (nb rfl) (nb rfl) ?_;cbv;obtain rfl:=Option.some.inj h;exact ARetM.mk trivial hX.symm hY.symm
 rw[ab hb1] at h;cbv;try(rw[hb1];cbv)
 obtain⟨x4,hx4,h⟩:=ac h;obtain⟨x4_1,⟨x4_2_b,x4_2_i,x4_2_h⟩⟩:=x4;try dsimp only at h
 refine ACallM.mk _ _ _ _ rfl rfl (hF _ _ _ (cd hg ht hx4)) rfl (nb rfl) (nb rfl) ?_;cbv;iterate 2 try(rw[hb1];cbv)
 have hb2:x4_1=true∨x4_1=false:=by cases x4_1<;>simp
 rcases hb2 with hb2|hb2
 ·rw[ab hb2] at h;have hK_:=h;subst hb2;have h:=hK_;clear hK_;cbv;obtain⟨x5,hx5,h⟩:=ac h;obtain⟨x5_1,⟨x5_2_b,x5_2_i,x5_2_h⟩⟩:=x5;try dsimp only at h
  refine ACallM.mk _ _ _ _ rfl rfl (hF _ _ _ (wy hg ht hx5)) rfl (nb rfl) (nb rfl) ?_;cbv;obtain rfl:=Option.some.inj h;exact ARetM.mk trivial hX.symm hY.symm
 rw[aa hb2] at h;have hK_:=h;subst hb2;have h:=hK_;clear hK_;cbv;obtain⟨x6,hx6,h⟩:=ac h;obtain⟨x6_1,⟨x6_2_b,x6_2_i,x6_2_h⟩⟩:=x6;try dsimp only at h
 refine ACallM.mk _ _ _ _ rfl rfl (hF _ _ _ (ay hg ht hx6)) rfl (nb rfl) (nb rfl) ?_;cbv;obtain⟨hc1,h⟩:=aj h;refine AStep.mk hc1 ?_;cbv;obtain⟨x7,hx7,h⟩:=aP h;obtain⟨x7_Thing,x7_At,x7_Kind,x7_Place,⟨x7_Trip_Leg,x7_Trip_Day⟩⟩:=x7;try dsimp only at h
 refine AGet.mk _ (bo hg ht hx7) ?_;cbv;obtain⟨l1,hl1,h⟩:=ah h;try dsimp only at h
 refine AVal.mk (r_I64 l1) (by rw[←hl1];exact f6 hg ht [(-1),0,1,30,300,2000]) ?_;cbv;obtain⟨x8,hx8,h⟩:=ac h;obtain⟨x8_1,⟨x8_2_b,x8_2_i,x8_2_h⟩⟩:=x8;try dsimp only at h
 refine ACallM.mk _ _ _ _ rfl rfl (hF _ _ _ (eP hg ht hx8)) rfl (nb rfl) (nb rfl) ?_;cbv;obtain⟨x9,hx9,h⟩:=ah h;try dsimp only at h
 refine ACall.mk _ _ rfl (hF _ _ _ (uv hg ht hx9)) (.inl rfl) (nb rfl) ?_;cbv;obtain rfl:=Option.some.inj h;exact ARetM.mk trivial hX.symm hY.symm
end Go.Vs
