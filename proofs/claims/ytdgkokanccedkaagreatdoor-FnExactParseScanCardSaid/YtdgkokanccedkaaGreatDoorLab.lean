/- Part of the proofs of this seat's laws: Lab. No condition. -/
import Derived.Test.YtdgkokanccedkaaGreatDoorTy
import Derived.Test.YtdgkokanccedkaaGreatDoorTIRall
import Derived.Test.YtdgkokanccedkaaGreatDoorLaa
set_option linter.unusedVariables false
set_option linter.unusedSimpArgs false
set_option linter.unusedSectionVars false
namespace Go.Vs
set_option maxRecDepth 100000
def ir72:J:=js [jq 1 (.box 0),jm 2 kf] [1] (js [jf 3 0 1,jk 4 3,jc 5 98 [4],jm 6 5,ju 7 6 (.fa 1 1),ju 8 6 (.ld false 1 7),ju 9 6 (.call 98 true [8]),jq 10 (.pick 6 9 kf),jm 11 10,ju 12 11 (.fa 0 1),ju 13 11 (.ld false 1 12),ju 14 11 (.fa 1 1),ju 15 11 (.ld false 1 14),ju 16 11 (.bin .neq .s 13 15),jq 17 (.pick 11 16 kf),jm 18 17,ju 19 18 (.fa 2 1),ju 20 18 (.ld false 1 19),ju 21 18 (.call 41 true [20,(ki 0),(ki 1439)]),jq 22 (.pick 18 21 kf),jm 23 22,ju 24 23 (.fa 3 1),ju 25 23 (.ld false 1 24),ju 26 23 (.call 41 true [25,(ki 1),(ki 4320)]),jq 27 (.pick 23 26 kf),jm 28 27,ju 29 28 (.fa 4 1),ju 30 28 (.ld false 1 29),ju 31 28 (.call 41 true [30,(ki 1),(ki 127)]),jq 32 (.pick 28 31 kf),jm 33 32,ju 34 33 (.fa 5 1),ju 35 33 (.ld false 1 34),ju 36 33 (.call 41 true [35,(ki 0),(ki 1000000)]),jq 37 (.pick 33 36 kf),jm 2 37] [2] .ret)
def rv72:List RV:=[.t 2]
open Go.Proofs Go.IntWalk
set_option linter.unusedVariables false
set_option maxHeartbeats 4000000
def kD (g:G) (t:TE) (a0:Leg):Option Bool:=
 cl (fN g t a0.From) fun x1=>
 br x1
 (
  cl (fN g t a0.To) fun x2=>
  br x2
  (
   br (g.seq a0.From a0.To)
   (
    some false)
   (
    lP (dc g t a0.Start 0 1439) fun x3=>
    br x3
    (
     lP (dc g t a0.Takes 1 4320) fun x4=>
     br x4
     (
      lP (dc g t a0.Days 1 127) fun x5=>
      br x5
      (
       lP (dc g t a0.Room 0 1000000) fun x6=>
       some x6)
      (
       some false))
     (
      some false))
    (
     some false)))
  (
   some false))
 (
  some false)
theorem vL {g:G} {t:TE} {a0:Leg} {r:Bool} (hg:g=G.real) (ht:t=TE.real) (h:kD g t a0=some r):Fn Tryz.prog 72 [.g (Leg.rs t a0)] (.c (.r (.v (.bool r)))):=by
 obtain⟨X,hX⟩:=au (.c (.r (.v (.bool r))):X);rw[←hX];refine aq (rvs:=rv72) (j:=ir72) Tryz.func72 rfl (by kernel_rfl) (nb rfl) (by kernel_rfl) ac ?_;intro g2 F hg2 hF;obtain rfl:g2=g:=hg2.unique.trans hg.symm;clear hg2;obtain⟨_,_,_,_,_,_,_,_,_,_,_,_,_,_,_,_,_,seq⟩:=g2;obtain⟨_⟩:=t;obtain⟨a0_From,a0_To,a0_Start,a0_Takes,a0_Days,a0_Room⟩:=a0
 unfold kD at h;try dsimp only at h
 cbv;obtain⟨x1,hx1,h⟩:=ae h;try dsimp only at h
 refine ACall.mk _ _ rfl (hF _ _ _ (ml hg ht hx1)) (.inl rfl) (nb rfl) ?_;cbv
 cases hb1:x1
 ·rw[aa hb1] at h;cbv;iterate 3 try(rw[hb1];cbv)
  obtain rfl:=Option.some.inj h;exact ARet.mk trivial hX.symm
 rw[ab hb1] at h;cbv;iterate 2 try(rw[hb1];cbv)
 obtain⟨x2,hx2,h⟩:=ae h;try dsimp only at h
 refine ACall.mk _ _ rfl (hF _ _ _ (ml hg ht hx2)) (.inl rfl) (nb rfl) ?_;cbv;try(rw[hb1];cbv)
 cases hb2:x2
 ·rw[aa hb2] at h;cbv;iterate 5 try(rw[hb2];cbv)
  obtain rfl:=Option.some.inj h;exact ARet.mk trivial hX.symm
 rw[ab hb2] at h;cbv;iterate 5 try(rw[hb2];cbv)
 cases hb3:(seq a0_From a0_To)
 rotate_left
 ·rw[ab hb3] at h;cbv;iterate 3 try(rw[hb3];cbv)
  obtain rfl:=Option.some.inj h;exact ARet.mk trivial hX.symm
 rw[aa hb3] at h;cbv;iterate 2 try(rw[hb3];cbv)
 obtain⟨x3,hx3,h⟩:=aj h;try dsimp only at h
 refine ACall.mk _ _ rfl (hF _ _ _ (cm hg ht hx3)) (.inl rfl) (nb rfl) ?_;cbv;try(rw[hb3];cbv)
 cases hb4:x3
 ·rw[aa hb4] at h;cbv;iterate 3 try(rw[hb4];cbv)
  obtain rfl:=Option.some.inj h;exact ARet.mk trivial hX.symm
 rw[ab hb4] at h;cbv;iterate 2 try(rw[hb4];cbv)
 obtain⟨x4,hx4,h⟩:=aj h;try dsimp only at h
 refine ACall.mk _ _ rfl (hF _ _ _ (cm hg ht hx4)) (.inl rfl) (nb rfl) ?_;cbv;try(rw[hb4];cbv)
 cases hb5:x4
 ·rw[aa hb5] at h;cbv;iterate 3 try(rw[hb5];cbv)
  obtain rfl:=Option.some.inj h;exact ARet.mk trivial hX.symm
 rw[ab hb5] at h;cbv;iterate 2 try(rw[hb5];cbv)
 obtain⟨x5,hx5,h⟩:=aj h;try dsimp only at h
 refine ACall.mk _ _ rfl (hF _ _ _ (cm hg ht hx5)) (.inl rfl) (nb rfl) ?_;cbv;try(rw[hb5];cbv)
 cases hb6:x5
 ·rw[aa hb6] at h;cbv;iterate 3 try(rw[hb6];cbv)
  obtain rfl:=Option.some.inj h;exact ARet.mk trivial hX.symm
 rw[ab hb6] at h;cbv;iterate 2 try(rw[hb6];cbv)
 obtain⟨x6,hx6,h⟩:=aj h;try dsimp only at h
 refine ACall.mk _ _ rfl (hF _ _ _ (cm hg ht hx6)) (.inl rfl) (nb rfl) ?_;cbv;try(rw[hb6];cbv)
 obtain rfl:=Option.some.inj h;exact ARet.mk trivial hX.symm
def ir40:J:=js [jq 1 (.box 0),jm 2 kf] [1] (.seq (js [jm 3 (ki 0)] [1,3] (.bl 0 (.seq (js [jm 5 3,jf 6 0 1,jk 7 6,jq 8 (.len false 7),jb 9 .lss .i 5 8] [1,3,9] (.cond 9 .skip (.exit 0))) (.seq (.block 1 (js [jf 12 0 1,jk 13 12,jm 14 3,ja 15 6 13 14,jl 16 6 15,jc 17 72 [16],jq 18 (.not 17)] [1,3,18] (.cond 18 (js [jm 2 kf] [2] .ret) .skip))) (.reg none [jm 10 3,jb 11 .add .i 10 (ki 1),jm 3 11] [1,3]))))) (.seq (js [jm 4 (ki 0)] [1,4] (.bl 2 (.seq (js [jm 19 4,jf 20 1 1,jk 21 20,jq 22 (.len false 21),jb 23 .lss .i 19 22] [1,4,23] (.cond 23 .skip (.exit 2))) (.seq (.block 3 (.seq (.reg (some [[],[0],[],[0,1,2],[0,1,2,3],[0,1,2,3,4],[0,1,2,3,4,5],[0,1,2,3,4,5,6],[0,1,2,3,4,5,6,7],[0,1,2,3,4,5,6,7,8],[0,1,2,3,4,5,6,7,8,9],[0,1,2,3,4,5,6,7,8,9,10],[0,1,2,3,4,5,6,7,8,9,10,11],[0,1,2,3,4,5,6,7,8,9,10],[0,1,2,3,4,5,6,7,8,9,10,13],[0,1,2,3,4,5,6,7,8,9,10,11,12,13,14],[0,1,2,3,4,5,6,7,8,9,10,11,12,13,14,15],[0,1,2,3,4,5,6,7,8,9,10],[0,1,2,3,4,5,6,7,8,9,10,17],[0,1,2,3,4,5,6,7,8,9,10],[0,1,2,3,4,5,6,7,8,9,10,17,18,19],[0,1,2,3,4,5,6,7,8,9,10,17,18,19,20],[0,1,2,3,4,5,6,7,8,9,10,11,12,13,14,15,16,17,18,19,20,21],[0,1,2,3,4,5,6,7,8,9,10,11,12,13,14,15,16,17,18,19,20,21,22],[0,1,2,3,4,5,6,7,8,9,10,11,12,13,14,15,16,17,18,19,20,21,22,23]]) [jf 26 1 1,jk 27 26,jm 28 4,ja 29 1 27 28,jk 30 29,jc 31 41 [30,(ki 0),(ki 60)],jq 32 (.not 31),jm 33 32,jv 34 33 (.mv 4),jv 35 33 (.bin .gtr .i 34 (ki 0)),jv 36 33 (.mv 35),ju 37 36 (.fa 1 1),ju 38 36 (.ld false 1 37),ju 39 36 (.mv 4),ju 40 36 (.bin .sub .i 39 (ki 1)),ju 41 36 (.ia 1 38 40),ju 42 36 (.ld false 1 41),ju 43 36 (.fa 1 1),ju 44 36 (.ld false 1 43),ju 45 36 (.mv 4),ju 46 36 (.ia 1 44 45),ju 47 36 (.ld false 1 46),ju 48 36 (.bin .geq .i 42 47),jv 49 33 (.pick 36 48 kf),jq 50 (.pick 33 kt 49)] [1,4,50]) (.cond 50 (js [jm 2 kf] [2] .ret) .skip))) (.reg none [jm 24 4,jb 25 .add .i 24 (ki 1),jm 4 25] [1,4]))))) (js [jf 51 0 1,jk 52 51,jq 53 (.len false 52),jb 54 .leq .i 53 (ki 20),jm 55 54,ju 56 55 (.fa 1 1),ju 57 55 (.ld false 1 56),ju 58 55 (.len false 57),ju 59 55 (.bin .leq .i 58 (ki 10)),jq 60 (.pick 55 59 kf),jm 61 60,ju 62 61 (.fa 2 1),ju 63 61 (.ld false 1 62),ju 64 61 (.call 41 true [63,(ki 0),(ki 240)]),jq 65 (.pick 61 64 kf),jm 2 65] [2] .ret)))
def rv40:List RV:=[.t 2]
def bp (g:G) (t:TE) (a0:Network):List Int→Int→Option (LR Bool Unit)
 |[],v2=>
  some (LR.out ())
 |z2::ls2,v2=>
  lP (dc g t z2 0 60) fun x2=>
  br x2
  (
   br (g.lt 0 v2)
   (
    gd (((0:Int)≤(g.wrap .i64 (g.sub v2 1))))<|
    gt a0.Off (g.nat (g.wrap .i64 (g.sub v2 1))) fun x3=>
    br (g.le z2 x3)
    (
     some (LR.ret false))
    (
     bp g t a0 ls2 (g.wrap .i64 (g.add v2 1))))
   (
    bp g t a0 ls2 (g.wrap .i64 (g.add v2 1))))
  (
   some (LR.ret false))
def bG (g:G) (t:TE):List Leg→Option (LR Bool Unit)
 |[]=>
  some (LR.out ())
 |z1::ls1=>
  cl (kD g t z1) fun x1=>
  br x1
  (
   bG g t ls1)
  (
   some (LR.ret false))
def cP (g:G) (t:TE) (a0:Network):Option Bool:=
 cl (bG g t a0.Legs) fun o1=>lr o1 fun y1=>
 cl (bp g t a0 a0.Off 0) fun o2=>lr o2 fun y2=>
 br (g.le (g.llen (t.r_Leg a0.Legs)) 20)
 (
  br (g.le (g.llen (t.r_I64 a0.Off)) 10)
  (
   lP (dc g t a0.Change 0 240) fun x4=>
   some x4)
  (
   some false))
 (
  some false)
theorem jL {g:G} {t:TE} {a0:Network} {r:Bool} (hg:g=G.real) (ht:t=TE.real) (h:cP g t a0=some r):Fn Tryz.prog 40 [.g (Network.rs t a0)] (.c (.r (.v (.bool r)))):=by
 obtain⟨X,hX⟩:=au (.c (.r (.v (.bool r))):X);rw[←hX];refine aq (rvs:=rv40) (j:=ir40) Tryz.func40 rfl (by kernel_rfl) (nb rfl) (by kernel_rfl) ac ?_;intro g2 F hg2 hF;obtain rfl:g2=g:=hg2.unique.trans hg.symm;clear hg2;obtain⟨wrap,lt,le,_,_,_,_,_,_,_,_,_,_,add,_,_,_,_,_,_,_,llen⟩:=g2;obtain⟨_,_,r_Leg,_,r_I64⟩:=t;obtain⟨a0_Legs,a0_Off,a0_Change⟩:=a0
 unfold cP at h;try dsimp only at h
 cbv;obtain⟨o1,ho1,h⟩:=ae h;try dsimp only at h
 try rw[hg] at ho1
 try rw[ht] at ho1
 refine ABL.mk {p:Nat×Int//p.1≤a0_Legs.length∧p.2=((p.1:Nat):Int)∧bG G.real TE.real (List.drop p.1 a0_Legs)=some o1} (fun⟨⟨k1,v1⟩,_⟩=>({sl:=[(1,.c (.p 0 3 0 0)),(3,.c (.r (.v (.int .i64 v1))))],tab:=[(0,some (.foc 3 [] [.r (.s 6 (r_Leg a0_Legs)),.r (.s 1 (r_I64 a0_Off)),.r (.v (.int .i64 a0_Change))] []))]}:St)) 1 (fun p=>a0_Legs.length-p.1.1) ⟨(0,0),Nat.zero_le _,rfl,ho1⟩ (Unit) (fun _=>({sl:=[(1,.c (.p 0 3 0 0))],tab:=[(0,some (.foc 3 [] [.r (.s 6 (r_Leg a0_Legs)),.r (.s 1 (r_I64 a0_Off)),.r (.v (.int .i64 a0_Change))] []))]}:St)) 1 (fun y=>o1=LR.out y) ?_ ?_ ?_
 ·refine Wk.of [(0,some 0)] rfl rfl ?_ ?_
  ·cbv;all_goals exact⟨⟨_,rfl,rfl⟩,⟨_,rfl,rfl⟩,trivial⟩
  cbv;all_goals exact⟨⟨_,rfl,_,rfl,rfl,rfl,rfl,trivial⟩,trivial⟩
 ·rintro⟨⟨k1,v1⟩,hk1,hi1,h_1⟩ hq1;have hm1:=(hq1.2.2.1 0 _ _ _ _ 0 _ _ rfl rfl);try dsimp only at hk1 hi1 h_1
  clear hq1;cbv
  by_cases hc1_:k1<a0_Legs.length
  ·have hb1:lt v1 (llen (r_Leg a0_Legs))=true:=dw hg ht hi1 hc1_;have hs1:=fM hg ht hi1 hc1_ hm1;obtain⟨z1,hz1⟩:=a8 hc1_;rw[aN hz1] at h_1;rw[bG] at h_1;obtain⟨z1_From,z1_To,z1_Start,z1_Takes,z1_Days,z1_Room⟩:=z1;try rw[←hg] at h_1
   try rw[←ht] at h_1
   try dsimp only at h_1
   rw[hb1];cbv;refine AStep.mk (ic hi1) ?_;cbv;refine AGet.mk _ (eQ hg ht hi1 hz1) ?_;cbv;obtain⟨x1,hx1,h_1⟩:=ae h_1;try dsimp only at h_1
   refine ACall.mk _ _ rfl (hF _ _ _ (vL hg ht hx1)) (.inl rfl) (nb rfl) ?_;cbv
   cases hb2:x1
   ·rw[aa hb2] at h_1;cbv;obtain rfl:=Option.some.inj h_1;try dsimp only[lr,lrL,lrp,bu] at h
    obtain rfl:=Option.some.inj h;exact ARet.mk trivial hX.symm
   rw[ab hb2] at h_1;cbv;try rw[hg] at h_1
   try rw[ht] at h_1
   refine⟨⟨(k1+1,(wrap .i64 (add v1 1))),hc1_,hs1,h_1⟩,Wk.of [(0,some 0)] rfl rfl ?_ ?_,db hc1_⟩
   ·cbv;all_goals exact⟨⟨_,rfl,rfl⟩,⟨_,rfl,rfl⟩,trivial⟩
   cbv;all_goals exact⟨⟨_,rfl,_,rfl,rfl,rfl,rfl,trivial⟩,trivial⟩
  have hb1:lt v1 (llen (r_Leg a0_Legs))=false:=c6 hg ht hi1 hc1_;rw[List.drop_of_length_le (Nat.le_of_not_lt hc1_)] at h_1;rw[bG] at h_1;try rw[←hg] at h_1
  try rw[←ht] at h_1
  try dsimp only at h_1
  rw[hb1];cbv;refine⟨(),Wk.of [(0,some 0)] rfl rfl ?_ ?_,(Option.some.inj h_1).symm⟩
  ·cbv;all_goals exact⟨⟨_,rfl,rfl⟩,trivial⟩
  cbv;all_goals exact⟨⟨_,rfl,_,rfl,rfl,rfl,rfl,trivial⟩,trivial⟩
 rintro _ hy1;replace hy1:=hy1.symm;subst hy1;try dsimp only[lr,lrL,lrp,bu] at h
 cbv;obtain⟨o2,ho2,h⟩:=ae h;try dsimp only at h
 try rw[hg] at ho2
 try rw[ht] at ho2
 refine ABL.mk {p:Nat×Int//p.1≤a0_Off.length∧p.2=((p.1:Nat):Int)∧bp G.real TE.real (Network.mk a0_Legs a0_Off a0_Change) (List.drop p.1 a0_Off) p.2=some o2} (fun⟨⟨k2,v2⟩,_⟩=>({sl:=[(1,.c (.p 0 3 0 0)),(4,.c (.r (.v (.int .i64 v2))))],tab:=[(0,some (.foc 3 [] [.r (.s 6 (r_Leg a0_Legs)),.r (.s 1 (r_I64 a0_Off)),.r (.v (.int .i64 a0_Change))] []))]}:St)) 1 (fun p=>a0_Off.length-p.1.1) ⟨(0,0),Nat.zero_le _,rfl,ho2⟩ (Unit) (fun _=>({sl:=[(1,.c (.p 0 3 0 0))],tab:=[(0,some (.foc 3 [] [.r (.s 6 (r_Leg a0_Legs)),.r (.s 1 (r_I64 a0_Off)),.r (.v (.int .i64 a0_Change))] []))]}:St)) 1 (fun y=>o2=LR.out y) ?_ ?_ ?_
 ·refine Wk.of [(0,some 0)] rfl rfl ?_ ?_
  ·cbv;all_goals exact⟨⟨_,rfl,rfl⟩,⟨_,rfl,rfl⟩,trivial⟩
  cbv;all_goals exact⟨⟨_,rfl,_,rfl,rfl,rfl,rfl,trivial⟩,trivial⟩
 ·rintro⟨⟨k2,v2⟩,hk2,hi2,h_2⟩ hq2;have hm2:=(hq2.2.2.1 0 _ _ _ _ 1 _ _ rfl rfl);try dsimp only at hk2 hi2 h_2
  clear hq2;cbv
  by_cases hc2_:k2<a0_Off.length
  ·have hb3:lt v2 (llen (r_I64 a0_Off))=true:=dE hg ht hi2 hc2_;have hs2:=fJ hg ht hi2 hc2_ hm2;obtain⟨z2,hz2⟩:=a8 hc2_;rw[aN hz2] at h_2;rw[bp] at h_2;try rw[←hg] at h_2
   try rw[←ht] at h_2
   try dsimp only at h_2
   rw[hb3];cbv;refine AStep.mk (ic hi2) ?_;cbv;refine AGet.mk _ (dW hg ht hi2 hz2) ?_;cbv;obtain⟨x2,hx2,h_2⟩:=aj h_2;try dsimp only at h_2
   refine ACall.mk _ _ rfl (hF _ _ _ (cm hg ht hx2)) (.inl rfl) (nb rfl) ?_;cbv
   cases hb4:x2
   ·rw[aa hb4] at h_2;cbv;iterate 4 try(rw[hb4];cbv)
    obtain rfl:=Option.some.inj h_2;try dsimp only[lr,lrL,lrp,bu] at h
    obtain rfl:=Option.some.inj h;exact ARet.mk trivial hX.symm
   rw[ab hb4] at h_2;cbv;iterate 2 try(rw[hb4];cbv)
   cases hb5:(lt 0 v2)
   ·rw[aa hb5] at h_2;cbv;iterate 11 try(rw[hb5];cbv)
    try(rw[hb4];cbv)
    try(rw[hb5];cbv)
    try(rw[hb4];cbv)
    try rw[hg] at h_2
    try rw[ht] at h_2
    refine⟨⟨(k2+1,(wrap .i64 (add v2 1))),hc2_,hs2,h_2⟩,Wk.of [(0,some 0)] rfl rfl ?_ ?_,db hc2_⟩
    ·cbv;all_goals exact⟨⟨_,rfl,rfl⟩,⟨_,rfl,rfl⟩,trivial⟩
    cbv;all_goals exact⟨⟨_,rfl,_,rfl,rfl,rfl,rfl,trivial⟩,trivial⟩
   rw[ab hb5] at h_2;cbv;iterate 4 try(rw[hb5];cbv)
   obtain⟨hc1,h_2⟩:=ai h_2;refine AStep.mk hc1 ?_;cbv;obtain⟨x3,hx3,h_2⟩:=aP h_2;try dsimp only at h_2
   refine AGet.mk _ (gI hg ht hx3) ?_;cbv;iterate 5 try(rw[hb5];cbv)
   refine AStep.mk (ic hi2) ?_;cbv;refine AGet.mk _ (dW hg ht hi2 hz2) ?_;cbv;iterate 2 try(rw[hb5];cbv)
   try(rw[hb4];cbv)
   try(rw[hb5];cbv)
   try(rw[hb4];cbv)
   cases hb6:(le z2 x3)
   rotate_left
   ·rw[ab hb6] at h_2;cbv;obtain rfl:=Option.some.inj h_2;try dsimp only[lr,lrL,lrp,bu] at h
    obtain rfl:=Option.some.inj h;exact ARet.mk trivial hX.symm
   rw[aa hb6] at h_2;cbv;try rw[hg] at h_2
   try rw[ht] at h_2
   refine⟨⟨(k2+1,(wrap .i64 (add v2 1))),hc2_,hs2,h_2⟩,Wk.of [(0,some 0)] rfl rfl ?_ ?_,db hc2_⟩
   ·cbv;all_goals exact⟨⟨_,rfl,rfl⟩,⟨_,rfl,rfl⟩,trivial⟩
   cbv;all_goals exact⟨⟨_,rfl,_,rfl,rfl,rfl,rfl,trivial⟩,trivial⟩
  have hb3:lt v2 (llen (r_I64 a0_Off))=false:=da hg ht hi2 hc2_;rw[List.drop_of_length_le (Nat.le_of_not_lt hc2_)] at h_2;rw[bp] at h_2;try rw[←hg] at h_2
  try rw[←ht] at h_2
  try dsimp only at h_2
  rw[hb3];cbv;refine⟨(),Wk.of [(0,some 0)] rfl rfl ?_ ?_,(Option.some.inj h_2).symm⟩
  ·cbv;all_goals exact⟨⟨_,rfl,rfl⟩,trivial⟩
  cbv;all_goals exact⟨⟨_,rfl,_,rfl,rfl,rfl,rfl,trivial⟩,trivial⟩
 rintro _ hy2;replace hy2:=hy2.symm;subst hy2;try dsimp only[lr,lrL,lrp,bu] at h
 cbv
 cases hb7:(le (llen (r_Leg a0_Legs)) 20)
 ·rw[aa hb7] at h;cbv;iterate 4 try(rw[hb7];cbv)
  obtain rfl:=Option.some.inj h;exact ARet.mk trivial hX.symm
 rw[ab hb7] at h;cbv;iterate 4 try(rw[hb7];cbv)
 cases hb8:(le (llen (r_I64 a0_Off)) 10)
 ·rw[aa hb8] at h;cbv;iterate 3 try(rw[hb8];cbv)
  obtain rfl:=Option.some.inj h;exact ARet.mk trivial hX.symm
 rw[ab hb8] at h;cbv;iterate 2 try(rw[hb8];cbv)
 obtain⟨x4,hx4,h⟩:=aj h;try dsimp only at h
 refine ACall.mk _ _ rfl (hF _ _ _ (cm hg ht hx4)) (.inl rfl) (nb rfl) ?_;cbv;try(rw[hb8];cbv)
 obtain rfl:=Option.some.inj h;exact ARet.mk trivial hX.symm
def ir42:J:=js [jm 4 (ki 0)] [0,1] (.seq (js [jm 5 (ki 0)] [0,1,5] (.bl 0 (.seq (js [jm 6 5,jm 7 0,jq 8 (.len false 7),jb 9 .lss .i 6 8] [0,1,5,9] (.cond 9 .skip (.exit 0))) (.seq (.block 1 (js [jm 12 0,jm 13 5,ja 14 1 12 13,jk 15 14,jm 16 1,jb 17 .eql .s 15 16] [0,1,5,17] (.cond 17 (js [jm 18 5,jm 4 18] [4] .ret) .skip))) (.reg none [jm 10 5,jb 11 .add .i 10 (ki 1),jm 5 11] [0,1,5]))))) (js [jq 4 (.mv (.k (V.i (-1))))] [4] .ret))
def rv42:List RV:=[.t 4]
def cd (g:G) (t:TE) (a1:ByteArray):List ByteArray→Int→LR Int Unit
 |[],v1=>
  (LR.out ())
 |z1::ls1,v1=>
  br (g.seq z1 a1)
  (
   (LR.ret v1))
  (
   cd g t a1 ls1 (g.wrap .i64 (g.add v1 1)))
def fO (g:G) (t:TE) (a0:List ByteArray) (a1:ByteArray):Int:=
 lP (cd g t a1 a0 0) fun o1=>lrp o1 fun y1=>
 (-1)
theorem lZ {g:G} {t:TE} {a0:List ByteArray} {a1:ByteArray} {r:Int} (hg:g=G.real) (ht:t=TE.real) (h:fO g t a0 a1=r):Fn Tryz.prog 42 [.c (.s 1 (t.r_S a0)),.c (.v (.string a1))] (.c (.r (.v (.int .i64 r)))):=by
 obtain⟨X,hX⟩:=au (.c (.r (.v (.int .i64 r))):X);rw[←hX];refine aq (rvs:=rv42) (j:=ir42) Tryz.func42 rfl (by kernel_rfl) (nb rfl) (by kernel_rfl) ac ?_;intro g2 F hg2 hF;obtain rfl:g2=g:=hg2.unique.trans hg.symm;clear hg2;obtain⟨wrap,lt,_,_,_,_,_,_,_,_,_,_,_,add,_,_,_,seq,_,_,_,llen⟩:=g2;obtain⟨_,_,_,_,_,_,r_S⟩:=t;unfold fO at h;try dsimp only at h
 cbv;obtain⟨o1,ho1,h⟩:=aj h;try dsimp only at h
 try rw[hg] at ho1
 try rw[ht] at ho1
 refine ABL.mk {p:Nat×Int//p.1≤a0.length∧p.2=((p.1:Nat):Int)∧cd G.real TE.real a1 (List.drop p.1 a0) p.2=o1} (fun⟨⟨k1,v1⟩,_⟩=>({sl:=[(0,.c (.r (.s 1 (r_S a0)))),(1,.c (.r (.v (.string a1)))),(5,.c (.r (.v (.int .i64 v1))))],tab:=[]}:St)) 0 (fun p=>a0.length-p.1.1) ⟨(0,0),Nat.zero_le _,rfl,ho1⟩ (Unit) (fun _=>({sl:=[],tab:=[]}:St)) 0 (fun y=>o1=LR.out y) ?_ ?_ ?_
 ·refine Wk.of [] rfl rfl ?_ ?_
  ·cbv;all_goals exact⟨⟨_,rfl,rfl⟩,⟨_,rfl,rfl⟩,⟨_,rfl,rfl⟩,trivial⟩
  cbv;all_goals exact trivial
 ·rintro⟨⟨k1,v1⟩,hk1,hi1,h_1⟩ hq1;have hm1:=(hq1.1 0 _ _ rfl);try dsimp only at hk1 hi1 h_1
  clear hq1;cbv
  by_cases hc1_:k1<a0.length
  ·have hb1:lt v1 (llen (r_S a0))=true:=ko hg ht hi1 hc1_;have hs1:=qM hg ht hi1 hc1_ hm1;obtain⟨z1,hz1⟩:=a8 hc1_;rw[aN hz1] at h_1;rw[cd] at h_1;try rw[←hg] at h_1
   try rw[←ht] at h_1
   try dsimp only at h_1
   rw[hb1];cbv;refine AStep.mk (ic hi1) ?_;cbv;refine AGet.mk _ (oE hg ht hi1 hz1) ?_;cbv
   cases hb2:(seq z1 a1)
   rotate_left
   ·rw[ab hb2] at h_1;cbv;subst h_1;try dsimp only[lr,lrL,lrp,bu] at h
    subst h;exact ARet.mk trivial hX.symm
   rw[aa hb2] at h_1;cbv;try rw[hg] at h_1
   try rw[ht] at h_1
   refine⟨⟨(k1+1,(wrap .i64 (add v1 1))),hc1_,hs1,h_1⟩,Wk.of [] rfl rfl ?_ ?_,db hc1_⟩
   ·cbv;all_goals exact⟨⟨_,rfl,rfl⟩,⟨_,rfl,rfl⟩,⟨_,rfl,rfl⟩,trivial⟩
   cbv;all_goals exact trivial
  have hb1:lt v1 (llen (r_S a0))=false:=iu hg ht hi1 hc1_;rw[List.drop_of_length_le (Nat.le_of_not_lt hc1_)] at h_1;rw[cd] at h_1;try rw[←hg] at h_1
  try rw[←ht] at h_1
  try dsimp only at h_1
  rw[hb1];cbv;refine⟨(),Wk.of [] rfl rfl ?_ ?_,h_1.symm⟩
  ·cbv;all_goals exact trivial
  cbv;all_goals exact trivial
 rintro _ hy1;replace hy1:=hy1.symm;subst hy1;try dsimp only[lr,lrL,lrp,bu] at h
 cbv;subst h;exact ARet.mk trivial hX.symm
def BM:J:=js [jm 4 kf] [0,1] (.seq (js [jm 5 (ki 0)] [0,1,5] (.bl 0 (.seq (js [jm 6 5,jm 7 0,jq 8 (.len false 7),jb 9 .lss .i 6 8] [0,1,5,9] (.cond 9 .skip (.exit 0))) (.seq (.block 1 (js [jm 12 0,jm 13 5,ja 14 1 12 13,jk 15 14,jm 16 1,jb 17 .eql .i 15 16] [0,1,5,17] (.cond 17 (js [jm 4 kt] [4] .ret) .skip))) (.reg none [jm 10 5,jb 11 .add .i 10 (ki 1),jm 5 11] [0,1,5]))))) (js [jm 4 kf] [4] .ret))
def BJ:List RV:=[.t 4]
def dg (g:G) (t:TE) (a1:Int):List Int→LR Bool Unit
 |[]=>
  (LR.out ())
 |z1::ls1=>
  br (g.eq z1 a1)
  (
   (LR.ret true))
  (
   dg g t a1 ls1)
def nh (g:G) (t:TE) (a0:List Int) (a1:Int):Bool:=
 lP (dg g t a1 a0) fun o1=>lrp o1 fun y1=>
 false
theorem vO {g:G} {t:TE} {a0:List Int} {a1:Int} {r:Bool} (hg:g=G.real) (ht:t=TE.real) (h:nh g t a0 a1=r):Fn Tryz.prog 124 [.c (.s 1 (t.r_I64 a0)),.c (.v (.int .i64 a1))] (.c (.r (.v (.bool r)))):=by
 obtain⟨X,hX⟩:=au (.c (.r (.v (.bool r))):X);rw[←hX];refine aq (rvs:=BJ) (j:=BM) Tryz.func124 rfl (by kernel_rfl) (nb rfl) (by kernel_rfl) ac ?_;intro g2 F hg2 hF;obtain rfl:g2=g:=hg2.unique.trans hg.symm;clear hg2;obtain⟨wrap,lt,_,eq,_,_,_,_,_,_,_,_,_,add,_,_,_,_,_,_,_,llen⟩:=g2;obtain⟨_,_,_,_,r_I64⟩:=t;unfold nh at h;try dsimp only at h
 cbv;obtain⟨o1,ho1,h⟩:=aj h;try dsimp only at h
 try rw[hg] at ho1
 try rw[ht] at ho1
 refine ABL.mk {p:Nat×Int//p.1≤a0.length∧p.2=((p.1:Nat):Int)∧dg G.real TE.real a1 (List.drop p.1 a0)=o1} (fun⟨⟨k1,v1⟩,_⟩=>({sl:=[(0,.c (.r (.s 1 (r_I64 a0)))),(1,.c (.r (.v (.int .i64 a1)))),(5,.c (.r (.v (.int .i64 v1))))],tab:=[]}:St)) 0 (fun p=>a0.length-p.1.1) ⟨(0,0),Nat.zero_le _,rfl,ho1⟩ (Unit) (fun _=>({sl:=[],tab:=[]}:St)) 0 (fun y=>o1=LR.out y) ?_ ?_ ?_
 ·refine Wk.of [] rfl rfl ?_ ?_
  ·cbv;all_goals exact⟨⟨_,rfl,rfl⟩,⟨_,rfl,rfl⟩,⟨_,rfl,rfl⟩,trivial⟩
  cbv;all_goals exact trivial
 ·rintro⟨⟨k1,v1⟩,hk1,hi1,h_1⟩ hq1;have hm1:=(hq1.1 0 _ _ rfl);try dsimp only at hk1 hi1 h_1
  clear hq1;cbv
  by_cases hc1_:k1<a0.length
  ·have hb1:lt v1 (llen (r_I64 a0))=true:=dE hg ht hi1 hc1_;have hs1:=fJ hg ht hi1 hc1_ hm1;obtain⟨z1,hz1⟩:=a8 hc1_;rw[aN hz1] at h_1;rw[dg] at h_1;try rw[←hg] at h_1
   try rw[←ht] at h_1
   try dsimp only at h_1
   rw[hb1];cbv;refine AStep.mk (ic hi1) ?_;cbv;refine AGet.mk _ (dW hg ht hi1 hz1) ?_;cbv
   cases hb2:(eq z1 a1)
   rotate_left
   ·rw[ab hb2] at h_1;cbv;subst h_1;try dsimp only[lr,lrL,lrp,bu] at h
    subst h;exact ARet.mk trivial hX.symm
   rw[aa hb2] at h_1;cbv;try rw[hg] at h_1
   try rw[ht] at h_1
   refine⟨⟨(k1+1,(wrap .i64 (add v1 1))),hc1_,hs1,h_1⟩,Wk.of [] rfl rfl ?_ ?_,db hc1_⟩
   ·cbv;all_goals exact⟨⟨_,rfl,rfl⟩,⟨_,rfl,rfl⟩,⟨_,rfl,rfl⟩,trivial⟩
   cbv;all_goals exact trivial
  have hb1:lt v1 (llen (r_I64 a0))=false:=da hg ht hi1 hc1_;rw[List.drop_of_length_le (Nat.le_of_not_lt hc1_)] at h_1;rw[dg] at h_1;try rw[←hg] at h_1
  try rw[←ht] at h_1
  try dsimp only at h_1
  rw[hb1];cbv;refine⟨(),Wk.of [] rfl rfl ?_ ?_,h_1.symm⟩
  ·cbv;all_goals exact trivial
  cbv;all_goals exact trivial
 rintro _ hy1;replace hy1:=hy1.symm;subst hy1;try dsimp only[lr,lrL,lrp,bu] at h
 cbv;subst h;exact ARet.mk trivial hX.symm
def ir99:J:=js [jq 3 (.box 0),jm 6 kf] [1,2,3] (js [jm 7 1,jf 8 0 3,jk 9 8,jq 10 (.len false 9),jb 11 .sub .i 10 (ki 1),jc 12 41 [7,(ki 0),11],jm 13 12,ju 14 13 (.mv 2),ju 15 13 (.call 41 true [14,(ki 0),(ki 60)]),jq 16 (.pick 13 15 kf),jm 17 16,ju 18 17 (.fa 0 3),ju 19 17 (.ld false 1 18),ju 20 17 (.mv 1),ju 21 17 (.ia 6 19 20),ju 22 17 (.fa 4 21),ju 23 17 (.ld false 1 22),ju 24 17 (.mv 2),ju 25 17 (.bin .rem .i 24 (ki 7)),ju 26 17 (.bin .shr .i 23 25),ju 27 17 (.bin .and .i 26 (ki 1)),ju 28 17 (.bin .eql .i 27 (ki 1)),jq 29 (.pick 17 28 kf),jm 30 29,ju 31 30 (.fa 1 3),ju 32 30 (.ld false 1 31),ju 33 30 (.mv 2),ju 34 30 (.call 124 true [32,33]),ju 35 30 (.not 34),jq 36 (.pick 30 35 kf),jm 6 36] [6] .ret)
def rv99:List RV:=[.t 6]
def eZ (g:G) (t:TE) (a0:Network) (a1:Int) (a2:Int):Option Bool:=
 lP (dc g t a1 0 (g.wrap .i64 (g.sub (g.llen (t.r_Leg a0.Legs)) 1))) fun x1=>
 br x1
 (
  lP (dc g t a2 0 60) fun x2=>
  br x2
  (
   gd (((0:Int)≤a1))<|
   gt a0.Legs (g.nat a1) fun x3=>
   gd (((0:Int)≤(g.rem a2 7)))<|
   br (g.eq (g.band .i64 (g.shr .i64 x3.Days (g.rem a2 7)) 1) 1)
   (
    lP (nh g t a0.Off a2) fun x4=>
    some (!x4))
   (
    some false))
  (
   some false))
 (
  some false)
theorem nk {g:G} {t:TE} {a0:Network} {a1:Int} {a2:Int} {r:Bool} (hg:g=G.real) (ht:t=TE.real) (h:eZ g t a0 a1 a2=some r):Fn Tryz.prog 99 [.g (Network.rs t a0),.c (.v (.int .i64 a1)),.c (.v (.int .i64 a2))] (.c (.r (.v (.bool r)))):=by
 obtain⟨X,hX⟩:=au (.c (.r (.v (.bool r))):X);rw[←hX];refine aq (rvs:=rv99) (j:=ir99) Tryz.func99 rfl (by kernel_rfl) (nb rfl) (by kernel_rfl) ac ?_;intro g2 F hg2 hF;obtain rfl:g2=g:=hg2.unique.trans hg.symm;clear hg2;obtain⟨_,_,_,eq,_,rem,band,_,_,_,shr⟩:=g2;obtain⟨_⟩:=t;obtain⟨a0_Legs,a0_Off,a0_Change⟩:=a0
 unfold eZ at h;try dsimp only at h
 cbv;obtain⟨x1,hx1,h⟩:=aj h;try dsimp only at h
 refine ACall.mk _ _ rfl (hF _ _ _ (cm hg ht hx1)) (.inl rfl) (nb rfl) ?_;cbv
 cases hb1:x1
 ·rw[aa hb1] at h;cbv;iterate 2 try(rw[hb1];cbv)
  obtain rfl:=Option.some.inj h;exact ARet.mk trivial hX.symm
 rw[ab hb1] at h;cbv;try(rw[hb1];cbv)
 obtain⟨x2,hx2,h⟩:=aj h;try dsimp only at h
 refine ACall.mk _ _ rfl (hF _ _ _ (cm hg ht hx2)) (.inl rfl) (nb rfl) ?_;cbv;try(rw[hb1];cbv)
 cases hb2:x2
 ·rw[aa hb2] at h;cbv;iterate 11 try(rw[hb2];cbv)
  obtain rfl:=Option.some.inj h;exact ARet.mk trivial hX.symm
 rw[ab hb2] at h;cbv;iterate 3 try(rw[hb2];cbv)
 obtain⟨hc1,h⟩:=ai h;refine AStep.mk hc1 ?_;cbv;obtain⟨x3,hx3,h⟩:=aP h;obtain⟨x3_From,x3_To,x3_Start,x3_Takes,x3_Days,x3_Room⟩:=x3;try dsimp only at h
 refine AGet.mk _ (bw hg ht hx3) ?_;cbv;iterate 4 try(rw[hb2];cbv)
 refine AStep.mk (by decide) ?_;cbv;try(rw[hb2];cbv)
 obtain⟨hc2,h⟩:=ai h;refine AStep.mk hc2 ?_;cbv;iterate 3 try(rw[hb2];cbv)
 cases hb3:(eq (band .i64 (shr .i64 x3_Days (rem a2 7)) 1) 1)
 ·rw[aa hb3] at h;cbv;iterate 5 try(rw[hb3];cbv)
  obtain rfl:=Option.some.inj h;exact ARet.mk trivial hX.symm
 rw[ab hb3] at h;cbv;iterate 3 try(rw[hb3];cbv)
 obtain⟨x4,hx4,h⟩:=aj h;try dsimp only at h
 refine ACall.mk _ _ rfl (hF _ _ _ (vO hg ht hx4)) (.inl rfl) (nb rfl) ?_;cbv;iterate 2 try(rw[hb3];cbv)
 obtain rfl:=Option.some.inj h;exact ARet.mk trivial hX.symm
def ir73:J:=js [jq 3 (.box 0),jm 6 kf] [1,2,3] (js [jl 7 3 3,jc 8 40 [7],jm 9 8,ju 10 9 (.ld true 3 3),ju 11 9 (.mv 1),ju 12 9 (.mv 2),ju 13 9 (.call 99 true [10,11,12]),jq 14 (.pick 9 13 kf),jm 6 14] [6] .ret)
def rv73:List RV:=[.t 6]
def lh (g:G) (t:TE) (a0:Network) (a1:Int) (a2:Int):Option Bool:=
 cl (cP g t a0) fun x1=>
 br x1
 (
  cl (eZ g t a0 a1 a2) fun x2=>
  some x2)
 (
  some false)
theorem tN {g:G} {t:TE} {a0:Network} {a1:Int} {a2:Int} {r:Bool} (hg:g=G.real) (ht:t=TE.real) (h:lh g t a0 a1 a2=some r):Fn Tryz.prog 73 [.g (Network.rs t a0),.c (.v (.int .i64 a1)),.c (.v (.int .i64 a2))] (.c (.r (.v (.bool r)))):=by
 obtain⟨X,hX⟩:=au (.c (.r (.v (.bool r))):X);rw[←hX];refine aq (rvs:=rv73) (j:=ir73) Tryz.func73 rfl (by kernel_rfl) (nb rfl) (by kernel_rfl) ac ?_;intro g2 F hg2 hF;obtain rfl:g2=g:=hg2.unique.trans hg.symm;clear hg2;obtain⟨_⟩:=g2;obtain⟨_⟩:=t;obtain⟨a0_Legs,a0_Off,a0_Change⟩:=a0
 unfold lh at h;try dsimp only at h
 cbv;obtain⟨x1,hx1,h⟩:=ae h;try dsimp only at h
 refine ACall.mk _ _ rfl (hF _ _ _ (jL hg ht hx1)) (.inl rfl) (nb rfl) ?_;cbv
 cases hb1:x1
 ·rw[aa hb1] at h;cbv;iterate 4 try(rw[hb1];cbv)
  obtain rfl:=Option.some.inj h;exact ARet.mk trivial hX.symm
 rw[ab hb1] at h;cbv;iterate 3 try(rw[hb1];cbv)
 obtain⟨x2,hx2,h⟩:=ae h;try dsimp only at h
 refine ACall.mk _ _ rfl (hF _ _ _ (nk hg ht hx2)) (.inl rfl) (nb rfl) ?_;cbv;try(rw[hb1];cbv)
 obtain rfl:=Option.some.inj h;exact ARet.mk trivial hX.symm
def ir43:J:=js [jq 2 (.box 0),jq 3 (.box 1),jm 4 kf] [2,3] (js [jl 5 3 2,jf 6 0 3,jk 7 6,jf 8 1 3,jk 9 8,jc 10 73 [5,7,9],jm 4 10] [4] .ret)
def rv43:List RV:=[.t 4]
def ew (g:G) (t:TE) (a0:Network) (a1:Trip):Option Bool:=
 cl (lh g t a0 a1.Leg a1.Day) fun x1=>
 some x1
theorem g9 {g:G} {t:TE} {a0:Network} {a1:Trip} {r:Bool} (hg:g=G.real) (ht:t=TE.real) (h:ew g t a0 a1=some r):Fn Tryz.prog 43 [.g (Network.rs t a0),.g (Trip.rs t a1)] (.c (.r (.v (.bool r)))):=by
 obtain⟨X,hX⟩:=au (.c (.r (.v (.bool r))):X);rw[←hX];refine aq (rvs:=rv43) (j:=ir43) Tryz.func43 rfl (by kernel_rfl) (nb rfl) (by kernel_rfl) ac ?_;intro g2 F hg2 hF;obtain rfl:g2=g:=hg2.unique.trans hg.symm;clear hg2;obtain⟨_⟩:=g2;obtain⟨_⟩:=t;obtain⟨a0_Legs,a0_Off,a0_Change⟩:=a0
 obtain⟨a1_Leg,a1_Day⟩:=a1;unfold ew at h;try dsimp only at h
 cbv;obtain⟨x1,hx1,h⟩:=ae h;try dsimp only at h
 refine ACall.mk _ _ rfl (hF _ _ _ (tN hg ht hx1)) (.inl rfl) (nb rfl) ?_;cbv;obtain rfl:=Option.some.inj h;exact ARet.mk trivial hX.symm
def ir44:J:=js [jq 2 (.box 0),jq 3 (.box 1),jm 4 (ki 0)] [2,3] (.seq (.reg (some [[],[0],[0,1],[],[3],[],[5],[3,4,5,6],[3,4,5,6,7],[3,4,5,6,7,8],[0,1,2,3,4,5,6,7,8,9],[0,1,2,3,4,5,6,7,8,9,10]]) [jf 5 1 3,jk 6 5,jb 7 .mul .i 6 (ki 1440),jf 8 0 2,jk 9 8,jf 10 0 3,jk 11 10,ja 12 6 9 11,jf 13 2 12,jk 14 13,jb 15 .add .i 7 14,jm 4 15] [4]) .ret)
def rv44:List RV:=[.t 4]
def cA (g:G) (t:TE) (a0:Network) (a1:Trip):Option Int:=
 gd (((0:Int)≤a1.Leg))<|
 gt a0.Legs (g.nat a1.Leg) fun x1=>
 some (g.wrap .i64 (g.add (g.wrap .i64 (g.mul a1.Day 1440)) x1.Start))
theorem fy {g:G} {t:TE} {a0:Network} {a1:Trip} {r:Int} (hg:g=G.real) (ht:t=TE.real) (h:cA g t a0 a1=some r):Fn Tryz.prog 44 [.g (Network.rs t a0),.g (Trip.rs t a1)] (.c (.r (.v (.int .i64 r)))):=by
 obtain⟨X,hX⟩:=au (.c (.r (.v (.int .i64 r))):X);rw[←hX];refine aq (rvs:=rv44) (j:=ir44) Tryz.func44 rfl (by kernel_rfl) (nb rfl) (by kernel_rfl) ac ?_;intro g2 F hg2 hF;obtain rfl:g2=g:=hg2.unique.trans hg.symm;clear hg2;obtain⟨_⟩:=g2;obtain⟨_⟩:=t;obtain⟨a0_Legs,a0_Off,a0_Change⟩:=a0
 obtain⟨a1_Leg,a1_Day⟩:=a1;unfold cA at h;try dsimp only at h
 cbv;obtain⟨hc1,h⟩:=ai h;refine AStep.mk hc1 ?_;cbv;obtain⟨x1,hx1,h⟩:=aP h;obtain⟨x1_From,x1_To,x1_Start,x1_Takes,x1_Days,x1_Room⟩:=x1;try dsimp only at h
 refine AGet.mk _ (bw hg ht hx1) ?_;cbv;obtain rfl:=Option.some.inj h;exact ARet.mk trivial hX.symm
def ir45:J:=js [jq 2 (.box 0),jq 3 (.box 1),jm 4 (ki 0)] [2,3] (.seq (.reg (some [[],[],[0,1],[],[3],[],[5],[3,4,5,6],[3,4,5,6,7],[3,4,5,6,7,8],[0,1,2,3,4,5,6,7,8,9],[0,1,2,3,4,5,6,7,8,9,10]]) [jl 5 3 2,jl 6 2 3,jc 7 44 [5,6],jf 8 0 2,jk 9 8,jf 10 0 3,jk 11 10,ja 12 6 9 11,jf 13 3 12,jk 14 13,jb 15 .add .i 7 14,jm 4 15] [4]) .ret)
def rv45:List RV:=[.t 4]
def fW (g:G) (t:TE) (a0:Network) (a1:Trip):Option Int:=
 cl (cA g t a0 a1) fun x1=>
 gd (((0:Int)≤a1.Leg))<|
 gt a0.Legs (g.nat a1.Leg) fun x2=>
 some (g.wrap .i64 (g.add x1 x2.Takes))
theorem oD {g:G} {t:TE} {a0:Network} {a1:Trip} {r:Int} (hg:g=G.real) (ht:t=TE.real) (h:fW g t a0 a1=some r):Fn Tryz.prog 45 [.g (Network.rs t a0),.g (Trip.rs t a1)] (.c (.r (.v (.int .i64 r)))):=by
 obtain⟨X,hX⟩:=au (.c (.r (.v (.int .i64 r))):X);rw[←hX];refine aq (rvs:=rv45) (j:=ir45) Tryz.func45 rfl (by kernel_rfl) (nb rfl) (by kernel_rfl) ac ?_;intro g2 F hg2 hF;obtain rfl:g2=g:=hg2.unique.trans hg.symm;clear hg2;obtain⟨_⟩:=g2;obtain⟨_⟩:=t;obtain⟨a0_Legs,a0_Off,a0_Change⟩:=a0
 obtain⟨a1_Leg,a1_Day⟩:=a1;unfold fW at h;try dsimp only at h
 cbv;obtain⟨x1,hx1,h⟩:=ae h;try dsimp only at h
 refine ACall.mk _ _ rfl (hF _ _ _ (fy hg ht hx1)) (.inl rfl) (nb rfl) ?_;cbv;obtain⟨hc1,h⟩:=ai h;refine AStep.mk hc1 ?_;cbv;obtain⟨x2,hx2,h⟩:=aP h;obtain⟨x2_From,x2_To,x2_Start,x2_Takes,x2_Days,x2_Room⟩:=x2;try dsimp only at h
 refine AGet.mk _ (bw hg ht hx2) ?_;cbv;obtain rfl:=Option.some.inj h;exact ARet.mk trivial hX.symm
def ir11 (s_k0:ByteArray):J:=js [jq 2 (.box 0),jq 3 (.box 1),jm 4 kf] [2,3] (.seq (js [jl 5 3 2,jc 6 40 [5],jq 7 (.not 6),jm 8 7,jv 9 8 (.fa 0 3),jv 10 8 (.ld false 1 9),jv 11 8 (.call 41 true [10,(ki 1),(ki 9999)]),jv 12 8 (.not 11),jq 13 (.pick 8 kt 12),jm 14 13,jv 15 14 (.fa 1 3),jv 16 14 (.ld false 1 15),jv 17 14 (.call 41 true [16,(ki 0),(ki 100000)]),jv 18 14 (.not 17),jq 19 (.pick 14 kt 18)] [2,3,19] (.cond 19 (js [jm 4 kf] [4] .ret) .skip)) (.seq (js [jf 20 2 3,jk 21 20] [2,3,21] (.block 0 (.seq (js [jb 23 .eql .i 21 (ki 1),jm 22 23] [2,3,21,22] (.cond 22 .skip (.reg none [jb 24 .eql .i 21 (ki 4),jm 22 24] [2,3,21,22]))) (.cond 22 (.seq (.reg (some [[],[0],[],[2],[0,1,2,3],[0,1,2,3,4],[0,1,2,3,4,5],[0,1,2,3,4,5,6],[0,1,2,3,4,5,6,7],[0,1,2,3,4,5,6],[0,1,2,3,4,5,6,7,8,9],[0,1,2,3,4,5,6,7,8,9,10],[0,1,2,3,4,5,6,7,8,9,10,11]]) [jl 25 3 2,jc 26 16 [25],jf 27 3 3,jk 28 27,jc 29 42 [26,28],jb 30 .geq .i 29 (ki 0),jm 31 30,ju 32 31 (.fa 4 3),ju 33 31 (.ld true 2 32),ju 34 31 (.bld [.r (.v (.int .i64 0)),.r (.v (.int .i64 0))] []),ju 35 31 (.eqs false [.i,.i] 33 34),jq 36 (.pick 31 35 kf),jm 4 36] [4]) .ret) (js [jb 38 .eql .i 21 (ki 3),jm 37 38] [2,3,21,37] (.cond 37 (.seq (.reg (some [[],[0],[0,1],[0,1,2],[0,1,2,3],[0,1,2,3],[0,1,2,3,5],[0,1,2,3,4,5,6],[0,1,2,3,4,5,6,7],[0,1,2,3,4,5,6,7,8],[0,1,2,3,4,5,6,7,8,9],[0,1,2,3,4,5,6,7,8,9,10],[0,1,2,3,4,5,6,7,8,9],[0,1,2,3,4,5,6,7,8,9],[0,1,2,3,4,5,6,7,8,9,13],[0,1,2,3,4,5,6,7,8,9,12,13,14],[0,1,2,3,4,5,6,7,8,9,10,11,12,13,14,15],[0,1,2,3,4,5,6,7,8,9,10,11,12,13,14,15,16],[0,1,2,3,4,5,6,7,8,9,10,11,12,13,14,15,16,17]]) [jf 39 3 3,jk 40 39,jq 41 (.bin .eql .s 40 (.k (.c (.r (.v (.string s_k0)))))),jm 42 41,ju 43 42 (.ld true 3 2),ju 44 42 (.fa 4 3),ju 45 42 (.ld true 2 44),ju 46 42 (.call 43 true [43,45]),jq 47 (.pick 42 46 kf),jm 48 47,ju 49 48 (.fa 1 3),ju 50 48 (.ld false 1 49),ju 51 48 (.ld true 3 2),ju 52 48 (.fa 4 3),ju 53 48 (.ld true 2 52),ju 54 48 (.call 44 true [51,53]),ju 55 48 (.bin .leq .i 50 54),jq 56 (.pick 48 55 kf),jm 4 56] [4]) .ret) (js [jb 58 .eql .i 21 (ki 2),jm 57 58] [2,3,57] (.cond 57 (.seq (.reg (some [[],[0],[0,1],[0,1,2],[0,1,2,3],[0,1,2,3],[0,1,2,3,5],[0,1,2,3,4,5,6],[0,1,2,3,4,5,6,7],[0,1,2,3,4,5,6,7,8],[0,1,2,3,4,5,6,7,8,9],[0,1,2,3,4,5,6,7,8,9,10],[0,1,2,3,4,5,6,7,8,9],[0,1,2,3,4,5,6,7,8,9],[0,1,2,3,4,5,6,7,8,9,13],[0,1,2,3,4,5,6,7,8,9,12,13,14],[0,1,2,3,4,5,6,7,8,9,10,11,12,13,14,15],[0,1,2,3,4,5,6,7,8,9,10,11,12,13,14,15,16],[0,1,2,3,4,5,6,7,8,9,10,11,12,13,14,15,16,17]]) [jf 59 3 3,jk 60 59,jq 61 (.bin .eql
 .s 60 (.k (.c (.r (.v (.string s_k0)))))),jm 62 61,ju 63 62 (.ld true 3 2),ju 64 62 (.fa 4 3),ju 65 62 (.ld true 2 64),ju 66 62 (.call 43 true [63,65]),jq 67 (.pick 62 66 kf),jm 68 67,ju 69 68 (.fa 1 3),ju 70 68 (.ld false 1 69),ju 71 68 (.ld true 3 2),ju 72 68 (.fa 4 3),ju 73 68 (.ld true 2 72),ju 74 68 (.call 45 true [71,73]),ju 75 68 (.bin .geq .i 70 74),jq 76 (.pick 68 75 kf),jm 4 76] [4]) .ret) .skip)))))))) (js [jm 4 kf] [4] .ret)))
def rv11:List RV:=[.t 4]
def gT (g:G) (t:TE) (a0:Network) (a1:Scan):Option Bool:=
 cl (cP g t a0) fun x1=>
 br x1
 (
  lP (dc g t a1.Thing 1 9999) fun x2=>
  br x2
  (
   lP (dc g t a1.At 0 100000) fun x3=>
   br x3
   (
    br (g.eq a1.Kind 1)
    (
     cl (cX g t a0) fun x4=>
     lP (fO g t x4 a1.Place) fun x5=>
     br (g.le 0 x5)
     (
      some (g.all [(g.eq a1.Trip.Leg 0),(g.eq a1.Trip.Day 0)]))
     (
      some false))
    (
     br (g.eq a1.Kind 4)
     (
      cl (cX g t a0) fun x6=>
      lP (fO g t x6 a1.Place) fun x7=>
      br (g.le 0 x7)
      (
       some (g.all [(g.eq a1.Trip.Leg 0),(g.eq a1.Trip.Day 0)]))
      (
       some false))
     (
      br (g.eq a1.Kind 3)
      (
       br (g.seq a1.Place str_k0)
       (
        cl (ew g t a0 (Trip.mk a1.Trip.Leg a1.Trip.Day)) fun x8=>
        br x8
        (
         cl (cA g t a0 (Trip.mk a1.Trip.Leg a1.Trip.Day)) fun x9=>
         some (g.le a1.At x9))
        (
         some false))
       (
        some false))
      (
       br (g.eq a1.Kind 2)
       (
        br (g.seq a1.Place str_k0)
        (
         cl (ew g t a0 (Trip.mk a1.Trip.Leg a1.Trip.Day)) fun x10=>
         br x10
         (
          cl (fW g t a0 (Trip.mk a1.Trip.Leg a1.Trip.Day)) fun x11=>
          some (g.le x11 a1.At))
         (
          some false))
        (
         some false))
       (
        some false)))))
   (
    some false))
  (
   some false))
 (
  some false)
theorem nv {g:G} {t:TE} {a0:Network} {a1:Scan} {r:Bool} (hg:g=G.real) (ht:t=TE.real) (h:gT g t a0 a1=some r):Fn Tryz.prog 11 [.g (Network.rs t a0),.g (Scan.rs t a1)] (.c (.r (.v (.bool r)))):=by
 obtain⟨X,hX⟩:=au (.c (.r (.v (.bool r))):X);rw[←hX];refine aq (rvs:=rv11) (j:=(ir11 str_k0)) Tryz.func11 rfl (by kernel_rfl) (nb rfl) (by kernel_rfl) ac ?_;intro g2 F hg2 hF;obtain rfl:g2=g:=hg2.unique.trans hg.symm;clear hg2;obtain⟨_,_,le,eq,_,_,_,_,_,_,_,_,_,_,_,_,_,seq,_,_,_,_,_,_,dlen,_,_,_,rd⟩:=g2;obtain⟨_,_,_,_,_,_,r_S,d_S⟩:=t;obtain⟨a0_Legs,a0_Off,a0_Change⟩:=a0
 obtain⟨a1_Thing,a1_At,a1_Kind,a1_Place,⟨a1_Trip_Leg,a1_Trip_Day⟩⟩:=a1;unfold gT at h;try dsimp only at h
 obtain⟨s_k0,hs_k0⟩:∃s,str_k0=s:=⟨_,rfl⟩;try rw[hs_k0] at h
 rw[hs_k0];cbv;obtain⟨x1,hx1,h⟩:=ae h;try dsimp only at h
 refine ACall.mk _ _ rfl (hF _ _ _ (jL hg ht hx1)) (.inl rfl) (nb rfl) ?_;cbv
 cases hb1:x1
 ·rw[aa hb1] at h;cbv;iterate 4 try(rw[hb1];cbv)
  obtain rfl:=Option.some.inj h;exact ARet.mk trivial hX.symm
 rw[ab hb1] at h;cbv;iterate 2 try(rw[hb1];cbv)
 obtain⟨x2,hx2,h⟩:=aj h;try dsimp only at h
 refine ACall.mk _ _ rfl (hF _ _ _ (cm hg ht hx2)) (.inl rfl) (nb rfl) ?_;cbv;iterate 2 try(rw[hb1];cbv)
 cases hb2:x2
 ·rw[aa hb2] at h;cbv;iterate 4 try(rw[hb2];cbv)
  obtain rfl:=Option.some.inj h;exact ARet.mk trivial hX.symm
 rw[ab hb2] at h;cbv;iterate 2 try(rw[hb2];cbv)
 obtain⟨x3,hx3,h⟩:=aj h;try dsimp only at h
 refine ACall.mk _ _ rfl (hF _ _ _ (cm hg ht hx3)) (.inl rfl) (nb rfl) ?_;cbv;iterate 2 try(rw[hb2];cbv)
 cases hb3:x3
 ·rw[aa hb3] at h;cbv;obtain rfl:=Option.some.inj h;exact ARet.mk trivial hX.symm
 rw[ab hb3] at h;cbv
 cases hb4:(eq a1_Kind 1)
 rotate_left
 ·rw[ab hb4] at h;cbv;try(rw[hb4];cbv)
  obtain⟨x4,hx4,h⟩:=ae h;try dsimp only at h
  refine ACall.mk _ _ rfl (hF _ _ _ (eE hg ht hx4)) (.inl rfl) (nb rfl) ?_;cbv;refine AStep.mk (rc ht (ao hg ht _)) ?_;cbv;obtain⟨x5,hx5,h⟩:=aj h;try dsimp only at h
  refine ACall.mk _ _ (by rw[show rd (d_S x4) 0 (dlen (d_S x4))=r_S x4 from tZ hg ht (ao hg ht _)];try rfl) (hF _ _ _ (lZ hg ht hx5)) (.inr rfl) (nb rfl) ?_
  cbv
  cases hb5:(le 0 x5)
  rotate_left
  ·rw[ab hb5] at h;cbv;iterate 4 try(rw[hb5];cbv)
   obtain rfl:=Option.some.inj h;exact ARet.mk trivial hX.symm
  rw[aa hb5] at h;cbv;iterate 4 try(rw[hb5];cbv)
  obtain rfl:=Option.some.inj h;exact ARet.mk trivial hX.symm
 rw[aa hb4] at h;cbv
 cases hb6:(eq a1_Kind 4)
 rotate_left
 ·rw[ab hb6] at h;cbv;obtain⟨x6,hx6,h⟩:=ae h;try dsimp only at h
  refine ACall.mk _ _ rfl (hF _ _ _ (eE hg ht hx6)) (.inl rfl) (nb rfl) ?_;cbv;refine AStep.mk (rc ht (ao hg ht _)) ?_;cbv;obtain⟨x7,hx7,h⟩:=aj h;try dsimp only at h
  refine ACall.mk _ _ (by rw[show rd (d_S x6) 0 (dlen (d_S x6))=r_S x6 from tZ hg ht (ao hg ht _)];try rfl) (hF _ _ _ (lZ hg ht hx7)) (.inr rfl) (nb rfl) ?_
  cbv
  cases hb7:(le 0 x7)
  rotate_left
  ·rw[ab hb7] at h;cbv;iterate 4 try(rw[hb7];cbv)
   obtain rfl:=Option.some.inj h;exact ARet.mk trivial hX.symm
  rw[aa hb7] at h;cbv;iterate 4 try(rw[hb7];cbv)
  obtain rfl:=Option.some.inj h;exact ARet.mk trivial hX.symm
 rw[aa hb6] at h;cbv
 cases hb8:(eq a1_Kind 3)
 rotate_left
 ·rw[ab hb8] at h;cbv
  cases hb9:(seq a1_Place s_k0)
  ·rw[aa hb9] at h;cbv;iterate 4 try(rw[hb9];cbv)
   obtain rfl:=Option.some.inj h;exact ARet.mk trivial hX.symm
  rw[ab hb9] at h;cbv;iterate 3 try(rw[hb9];cbv)
  obtain⟨x8,hx8,h⟩:=ae h;try dsimp only at h
  refine ACall.mk _ _ rfl (hF _ _ _ (g9 hg ht hx8)) (.inl rfl) (nb rfl) ?_;cbv;try(rw[hb9];cbv)
  cases hb10:x8
  ·rw[aa hb10] at h;cbv;iterate 7 try(rw[hb10];cbv)
   obtain rfl:=Option.some.inj h;exact ARet.mk trivial hX.symm
  rw[ab hb10] at h;cbv;iterate 5 try(rw[hb10];cbv)
  obtain⟨x9,hx9,h⟩:=ae h;try dsimp only at h
  refine ACall.mk _ _ rfl (hF _ _ _ (fy hg ht hx9)) (.inl rfl) (nb rfl) ?_;cbv;iterate 2 try(rw[hb10];cbv)
  obtain rfl:=Option.some.inj h;exact ARet.mk trivial hX.symm
 rw[aa hb8] at h;cbv
 cases hb11:(eq a1_Kind 2)
 ·rw[aa hb11] at h;cbv;obtain rfl:=Option.some.inj h;exact ARet.mk trivial hX.symm
 rw[ab hb11] at h;cbv
 cases hb12:(seq a1_Place s_k0)
 ·rw[aa hb12] at h;cbv;iterate 4 try(rw[hb12];cbv)
  obtain rfl:=Option.some.inj h;exact ARet.mk trivial hX.symm
 rw[ab hb12] at h;cbv;iterate 3 try(rw[hb12];cbv)
 obtain⟨x10,hx10,h⟩:=ae h;try dsimp only at h
 refine ACall.mk _ _ rfl (hF _ _ _ (g9 hg ht hx10)) (.inl rfl) (nb rfl) ?_;cbv;try(rw[hb12];cbv)
 cases hb13:x10
 ·rw[aa hb13] at h;cbv;iterate 7 try(rw[hb13];cbv)
  obtain rfl:=Option.some.inj h;exact ARet.mk trivial hX.symm
 rw[ab hb13] at h;cbv;iterate 5 try(rw[hb13];cbv)
 obtain⟨x11,hx11,h⟩:=ae h;try dsimp only at h
 refine ACall.mk _ _ rfl (hF _ _ _ (oD hg ht hx11)) (.inl rfl) (nb rfl) ?_;cbv;iterate 2 try(rw[hb13];cbv)
 obtain rfl:=Option.some.inj h;exact ARet.mk trivial hX.symm
def ir51 (s_k0 s_k12 s_k13 s_k14 s_k15:ByteArray):J:=js [jq 2 (.mv (.k (.c (.r (.v (.string s_k0))))))] [0] (.seq (js [jm 3 0] [3] (.block 0 (js [jb 5 .eql .i 3 (ki 1),jm 4 5] [3,4] (.cond 4 (js [jq 2 (.mv (.k (.c (.r (.v (.string s_k12))))))] [2] .ret) (js [jb 7 .eql .i 3 (ki 3),jm 6 7] [3,6] (.cond 6 (js [jq 2 (.mv (.k (.c (.r (.v (.string s_k14))))))] [2] .ret) (js [jb 9 .eql .i 3 (ki 2),jm 8 9] [8] (.cond 8 (js [jq 2 (.mv (.k (.c (.r (.v (.string s_k13))))))] [2] .ret) .skip)))))))) (js [jq 2 (.mv (.k (.c (.r (.v (.string s_k15))))))] [2] .ret))
def rv51:List RV:=[.t 2]
def gR (g:G) (t:TE) (a0:Int):ByteArray:=
 br (g.eq a0 1)
 (
  jt)
 (
  br (g.eq a0 3)
  (
   jh)
  (
   br (g.eq a0 2)
   (
    jx)
   (
    jz)))
theorem nZ {g:G} {t:TE} {a0:Int} {r:ByteArray} (hg:g=G.real) (ht:t=TE.real) (h:gR g t a0=r):Fn Tryz.prog 51 [.c (.v (.int .i64 a0))] (.c (.r (.v (.string r)))):=by
 obtain⟨X,hX⟩:=au (.c (.r (.v (.string r))):X);rw[←hX];refine aq (rvs:=rv51) (j:=(ir51 str_k0 jt jx jh jz)) Tryz.func51 rfl (by kernel_rfl) (nb rfl) (by kernel_rfl) ac ?_;intro g2 F hg2 hF;obtain rfl:g2=g:=hg2.unique.trans hg.symm;clear hg2;obtain⟨_,_,_,eq⟩:=g2;obtain⟨_⟩:=t
 unfold gR at h;try dsimp only at h
 obtain⟨s_k0,hs_k0⟩:∃s,str_k0=s:=⟨_,rfl⟩;try rw[hs_k0] at h
 rw[hs_k0];obtain⟨s_k12,hs_k12⟩:∃s,jt=s:=⟨_,rfl⟩;try rw[hs_k12] at h
 rw[hs_k12];obtain⟨s_k13,hs_k13⟩:∃s,jx=s:=⟨_,rfl⟩;try rw[hs_k13] at h
 rw[hs_k13];obtain⟨s_k14,hs_k14⟩:∃s,jh=s:=⟨_,rfl⟩;try rw[hs_k14] at h
 rw[hs_k14];obtain⟨s_k15,hs_k15⟩:∃s,jz=s:=⟨_,rfl⟩;try rw[hs_k15] at h
 rw[hs_k15];cbv
 cases hb1:(eq a0 1)
 rotate_left
 ·rw[ab hb1] at h;cbv;subst h;exact ARet.mk trivial hX.symm
 rw[aa hb1] at h;cbv
 cases hb2:(eq a0 3)
 rotate_left
 ·rw[ab hb2] at h;cbv;subst h;exact ARet.mk trivial hX.symm
 rw[aa hb2] at h;cbv
 cases hb3:(eq a0 2)
 rotate_left
 ·rw[ab hb3] at h;cbv;subst h;exact ARet.mk trivial hX.symm
 rw[aa hb3] at h;cbv;subst h;exact ARet.mk trivial hX.symm
def ir58 (s_k0 s_k17 s_k9:ByteArray):J:=js [jq 2 (.mv (.k (.c (.r (.v (.string s_k0))))))] [0] (.seq (js [jm 6 0,jb 7 .eql .i 6 (ki 0)] [0,7] (.cond 7 (js [jq 2 (.mv (.k (.c (.r (.v (.string s_k9))))))] [2] .ret) .skip)) (js [jq 3 (.mv (.k (.c (.r (.v (.string s_k0))))))] [0,3] (.seq (js [jm 8 0,jm 4 8] [0,3,4] (.bl 0 (.seq (js [jm 9 4,jb 10 .neq .i 9 (ki 0)] [0,3,4,10] (.cond 10 .skip (.exit 0))) (.seq (.block 1 (js [jm 13 4,jb 14 .rem .i 13 (ki 10),jm 5 14] [0,3,4,5] (.seq (js [jm 15 5,jb 16 .lss .i 15 (ki 0)] [0,3,4,5,16] (.cond 16 (.reg none [jm 17 5,jq 18 (.neg 17),jm 5 18] [0,3,4,5]) .skip)) (.reg none [jm 19 5,jb 20 .add .i (ki 48) 19,jq 21 (.cvt .u8 20),jq 22 (.bsl 1 [21]),jq 23 (.b2s 22),jm 24 3,jb 25 .add .s 23 24,jm 3 25] [0,3,4])))) (.reg none [jm 11 4,jb 12 .quo .i 11 (ki 10),jm 4 12] [0,3,4]))))) (.seq (js [jm 26 0,jb 27 .lss .i 26 (ki 0)] [3,27] (.cond 27 (js [jm 28 3,jq 29 (.bin .add .s (.k (.c (.r (.v (.string s_k17))))) 28),jm 2 29] [2] .ret) .skip)) (js [jm 30 3,jm 2 30] [2] .ret)))))
def rv58:List RV:=[.t 2]
def aX (g:G) (t:TE):Nat→ByteArray→Int→Option ByteArray
 |0,_,_=>none
 |n1+1,v1,v2=>
  br (g.eq v2 0)
  (
   some v1)
  (
   br (g.lt (g.rem v2 10) 0)
   (
    lP ([(g.wrap .u8 (g.wrap .i64 (g.add 48 (g.wrap .i64 (g.sub 0 (g.rem v2 10))))))]) fun(l1:List Int)=>
    gd (((g.bstr l1).size+v1.size≤70368744177664))<|
    aX g t n1 (g.cat (g.bstr l1) v1) (g.wrap .i64 (g.quo v2 10)))
   (
    lP ([(g.wrap .u8 (g.wrap .i64 (g.add 48 (g.rem v2 10))))]) fun(l2:List Int)=>
    gd (((g.bstr l2).size+v1.size≤70368744177664))<|
    aX g t n1 (g.cat (g.bstr l2) v1) (g.wrap .i64 (g.quo v2 10))))
def bO (g:G) (t:TE) (a0:Int):Option ByteArray:=
 br (g.eq a0 0)
 (
  some eO)
 (
  cl (aX g t 1000000000 str_k0 a0) fun y1=>
  br (g.lt a0 0)
  (
   gd ((kW.size+y1.size≤70368744177664))<|
   some (g.cat kW y1))
  (
   some y1))
theorem c7 {g:G} {t:TE} {a0:Int} {r:ByteArray} (hg:g=G.real) (ht:t=TE.real) (h:bO g t a0=some r):Fn Tryz.prog 58 [.c (.v (.int .i64 a0))] (.c (.r (.v (.string r)))):=by
 obtain⟨X,hX⟩:=au (.c (.r (.v (.string r))):X);rw[←hX];refine aq (rvs:=rv58) (j:=(ir58 str_k0 kW eO)) Tryz.func58 rfl (by kernel_rfl) (nb rfl) (by kernel_rfl) ac ?_;intro g2 F hg2 hF;obtain rfl:g2=g:=hg2.unique.trans hg.symm;clear hg2;obtain⟨wrap,lt,_,eq,quo,rem,_,_,_,_,_,_,_,add,sub,_,cat,_,_,_,_,_,_,_,dlen,_,_,_,rd,_,_,_,_,_,_,_,_,_,_,_,_,_,_,bstr⟩:=g2;obtain⟨r_U8,d_U8⟩:=t;unfold bO at h
 try dsimp only at h
 obtain⟨s_k0,hs_k0⟩:∃s,str_k0=s:=⟨_,rfl⟩;try rw[hs_k0] at h
 rw[hs_k0];obtain⟨s_k17,hs_k17⟩:∃s,kW=s:=⟨_,rfl⟩;try rw[hs_k17] at h
 rw[hs_k17];obtain⟨s_k9,hs_k9⟩:∃s,eO=s:=⟨_,rfl⟩;try rw[hs_k9] at h
 rw[hs_k9];cbv
 cases hb1:(eq a0 0)
 rotate_left
 ·rw[ab hb1] at h;cbv;obtain rfl:=Option.some.inj h;exact ARet.mk trivial hX.symm
 rw[aa hb1] at h;cbv;obtain⟨o1,ho1,h⟩:=ae h;try dsimp only at h
 try rw[hg] at ho1
 try rw[ht] at ho1
 refine ABL.mk {p:Nat×ByteArray×Int//aX G.real TE.real p.1 p.2.1 p.2.2=some o1} (fun⟨⟨n1,v1,v2⟩,_⟩=>({sl:=[(0,.c (.r (.v (.int .i64 a0)))),(3,.c (.r (.v (.string v1)))),(4,.c (.r (.v (.int .i64 v2))))],tab:=[]}:St)) 0 (fun p=>p.1.1) ⟨(1000000000,s_k0,a0),ho1⟩ (ByteArray) (fun y1=>({sl:=[(0,.c (.r (.v (.int .i64 a0)))),(3,.c (.r (.v (.string y1))))],tab:=[]}:St)) 0 (fun y=>o1=y) ?_ ?_ ?_
 ·refine Wk.of [] rfl rfl ?_ ?_
  ·cbv;all_goals exact⟨⟨_,rfl,rfl⟩,⟨_,rfl,rfl⟩,⟨_,rfl,rfl⟩,trivial⟩
  cbv;all_goals exact trivial
 ·rintro⟨⟨n1,v1,v2⟩,h_1⟩ hq1;try dsimp only at h_1
  clear hq1;rcases n1 with _|n1
  ·rw[aX] at h_1;cases h_1
  rw[aX] at h_1;try rw[←hg] at h_1
  try rw[←ht] at h_1
  try dsimp only at h_1
  try rw[hs_k0] at h_1
  try rw[hs_k17] at h_1
  try rw[hs_k9] at h_1
  cbv
  cases hb2:(eq v2 0)
  rotate_left
  ·rw[ab hb2] at h_1;cbv;refine⟨v1,Wk.of [] rfl rfl ?_ ?_,(Option.some.inj h_1).symm⟩
   ·cbv;all_goals exact⟨⟨_,rfl,rfl⟩,⟨_,rfl,rfl⟩,trivial⟩
   cbv;all_goals exact trivial
  rw[aa hb2] at h_1;cbv;refine AStep.mk (by decide) ?_;cbv
  cases hb3:(lt (rem v2 10) 0)
  ·rw[aa hb3] at h_1;cbv;obtain⟨l2,hl2,h_1⟩:=aj h_1;try dsimp only at h_1
   refine ANew.mk (d_U8 l2) (dlen (d_U8 l2)) (by rw[←hl2];exact wA hg ht [(wrap .u8 (wrap .i64 (add 48 (rem v2 10))))]) (by rw[←hl2];exact t9 hg ht [(wrap .u8 (wrap .i64 (add 48 (rem v2 10))))]) ?_;cbv;refine AStep.mk (uu ht (mS hg ht _)) ?_;cbv;refine AB2.mk l2 (by rw[show rd (d_U8 l2) 0 (dlen (d_U8 l2))=r_U8 l2 from yg hg ht (mS hg ht _)];exact xY ht _) ?_;cbv;obtain⟨hc2,h_1⟩:=ai h_1;refine AStep.mk (aA hc2) ?_;cbv;refine AStep.mk (by decide) ?_;cbv;try rw[hg] at h_1
   try rw[ht] at h_1
   refine⟨⟨(n1,(cat (bstr l2) v1),(wrap .i64 (quo v2 10))),h_1⟩,Wk.of [] rfl rfl ?_ ?_,Nat.lt_succ_self _⟩
   ·cbv;all_goals exact⟨⟨_,rfl,rfl⟩,⟨_,rfl,rfl⟩,⟨_,rfl,rfl⟩,trivial⟩
   cbv;all_goals exact trivial
  rw[ab hb3] at h_1;cbv;obtain⟨l1,hl1,h_1⟩:=aj h_1;try dsimp only at h_1
  refine ANew.mk (d_U8 l1) (dlen (d_U8 l1)) (by rw[←hl1];exact wA hg ht [(wrap .u8 (wrap .i64 (add 48 (wrap .i64 (sub 0 (rem v2 10))))))]) (by rw[←hl1];exact t9 hg ht [(wrap .u8 (wrap .i64 (add 48 (wrap .i64 (sub 0 (rem v2 10))))))]) ?_;cbv;refine AStep.mk (uu ht (mS hg ht _)) ?_;cbv;refine AB2.mk l1 (by rw[show rd (d_U8 l1) 0 (dlen (d_U8 l1))=r_U8 l1 from yg hg ht (mS hg ht _)];exact xY ht _) ?_;cbv;obtain⟨hc1,h_1⟩:=ai h_1;refine AStep.mk (aA hc1) ?_;cbv;refine AStep.mk (by decide) ?_;cbv;try rw[hg] at h_1
  try rw[ht] at h_1
  refine⟨⟨(n1,(cat (bstr l1) v1),(wrap .i64 (quo v2 10))),h_1⟩,Wk.of [] rfl rfl ?_ ?_,Nat.lt_succ_self _⟩
  ·cbv;all_goals exact⟨⟨_,rfl,rfl⟩,⟨_,rfl,rfl⟩,⟨_,rfl,rfl⟩,trivial⟩
  cbv;all_goals exact trivial
 rintro y1 hy1;replace hy1:=hy1.symm;subst hy1;try dsimp only[lr,lrL,lrp,bu] at h
 cbv
 cases hb4:(lt a0 0)
 ·rw[aa hb4] at h;cbv;obtain rfl:=Option.some.inj h;exact ARet.mk trivial hX.symm
 rw[ab hb4] at h;cbv;obtain⟨hc3,h⟩:=ai h;refine AStep.mk (aA hc3) ?_;cbv;obtain rfl:=Option.some.inj h;exact ARet.mk trivial hX.symm
def BO (s_k0 s_k9:ByteArray):J:=js [jq 4 (.mv (.k (.c (.r (.v (.string s_k0))))))] [0,1] (js [jm 6 0,jc 7 58 [6],jm 5 7] [1,5] (.seq (.bl 0 (.seq (js [jm 8 5,jq 9 (.len true 8),jm 10 1,jb 11 .lss .i 9 10] [1,5,11] (.cond 11 .skip (.exit 0))) (.block 1 (.reg none [jm 12 5,jq 13 (.bin .add .s (.k (.c (.r (.v (.string s_k9))))) 12),jm 5 13] [1,5])))) (js [jm 14 5,jm 4 14] [4] .ret)))
def BB:List RV:=[.t 4]
def bP (g:G) (t:TE) (a1:Int):Nat→ByteArray→Option ByteArray
 |0,_=>none
 |n1+1,v1=>
  br (g.lt (g.int (g.slen v1)) a1)
  (
   gd ((eO.size+v1.size≤70368744177664))<|
   bP g t a1 n1 (g.cat eO v1))
  (
   some v1)
def eS (g:G) (t:TE) (a0:Int) (a1:Int):Option ByteArray:=
 cl (bO g t a0) fun x1=>
 cl (bP g t a1 1000000000 x1) fun y1=>
 some y1
theorem kS {g:G} {t:TE} {a0:Int} {a1:Int} {r:ByteArray} (hg:g=G.real) (ht:t=TE.real) (h:eS g t a0 a1=some r):Fn Tryz.prog 100 [.c (.v (.int .i64 a0)),.c (.v (.int .i64 a1))] (.c (.r (.v (.string r)))):=by
 obtain⟨X,hX⟩:=au (.c (.r (.v (.string r))):X);rw[←hX];refine aq (rvs:=BB) (j:=(BO str_k0 eO)) Tryz.func100 rfl (by kernel_rfl) (nb rfl) (by kernel_rfl) ac ?_;intro g2 F hg2 hF;obtain rfl:g2=g:=hg2.unique.trans hg.symm;clear hg2;obtain⟨_,lt,_,_,_,_,_,_,_,_,_,_,int,_,_,_,cat,_,_,_,_,_,_,_,_,_,_,_,_,_,_,_,_,_,_,slen⟩:=g2;obtain⟨_⟩:=t;unfold eS at h
 try dsimp only at h
 obtain⟨s_k0,hs_k0⟩:∃s,str_k0=s:=⟨_,rfl⟩;try rw[hs_k0] at h
 rw[hs_k0];obtain⟨s_k9,hs_k9⟩:∃s,eO=s:=⟨_,rfl⟩;try rw[hs_k9] at h
 rw[hs_k9];cbv;obtain⟨x1,hx1,h⟩:=ae h;try dsimp only at h
 refine ACall.mk _ _ rfl (hF _ _ _ (c7 hg ht hx1)) (.inl rfl) (nb rfl) ?_;cbv;obtain⟨o1,ho1,h⟩:=ae h;try dsimp only at h
 try rw[hg] at ho1
 try rw[ht] at ho1
 refine ABL.mk {p:Nat×ByteArray//bP G.real TE.real a1 p.1 p.2=some o1} (fun⟨⟨n1,v1⟩,_⟩=>({sl:=[(1,.c (.r (.v (.int .i64 a1)))),(5,.c (.r (.v (.string v1))))],tab:=[]}:St)) 0 (fun p=>p.1.1) ⟨(1000000000,x1),ho1⟩ (ByteArray) (fun y1=>({sl:=[(5,.c (.r (.v (.string y1))))],tab:=[]}:St)) 0 (fun y=>o1=y) ?_ ?_ ?_
 ·refine Wk.of [] rfl rfl ?_ ?_
  ·cbv;all_goals exact⟨⟨_,rfl,rfl⟩,⟨_,rfl,rfl⟩,trivial⟩
  cbv;all_goals exact trivial
 ·rintro⟨⟨n1,v1⟩,h_1⟩ hq1;try dsimp only at h_1
  clear hq1;rcases n1 with _|n1
  ·rw[bP] at h_1;cases h_1
  rw[bP] at h_1;try rw[←hg] at h_1
  try rw[←ht] at h_1
  try dsimp only at h_1
  try rw[hs_k0] at h_1
  try rw[hs_k9] at h_1
  cbv
  cases hb1:(lt (int (slen v1)) a1)
  ·rw[aa hb1] at h_1;cbv;refine⟨v1,Wk.of [] rfl rfl ?_ ?_,(Option.some.inj h_1).symm⟩
   ·cbv;all_goals exact⟨⟨_,rfl,rfl⟩,trivial⟩
   cbv;all_goals exact trivial
  rw[ab hb1] at h_1;cbv;obtain⟨hc1,h_1⟩:=ai h_1;refine AStep.mk (aA hc1) ?_;cbv;try rw[hg] at h_1
  try rw[ht] at h_1
  refine⟨⟨(n1,(cat s_k9 v1)),h_1⟩,Wk.of [] rfl rfl ?_ ?_,Nat.lt_succ_self _⟩
  ·cbv;all_goals exact⟨⟨_,rfl,rfl⟩,⟨_,rfl,rfl⟩,trivial⟩
  cbv;all_goals exact trivial
 rintro y1 hy1;replace hy1:=hy1.symm;subst hy1;try dsimp only[lr,lrL,lrp,bu] at h
 cbv;obtain rfl:=Option.some.inj h;exact ARet.mk trivial hX.symm
def ir78 (s_k0 s_k10:ByteArray):J:=js [jq 2 (.mv (.k (.c (.r (.v (.string s_k0))))))] [0] (js [jm 3 0,jb 4 .quo .i 3 (ki 60),jc 5 100 [4,(ki 2)],jq 6 (.bin .add .s 5 (.k (.c (.r (.v (.string s_k10)))))),jm 7 0,jb 8 .rem .i 7 (ki 60),jc 9 100 [8,(ki 2)],jb 10 .add .s 6 9,jm 2 10] [2] .ret)
def rv78:List RV:=[.t 2]
def fL (g:G) (t:TE) (a0:Int):Option ByteArray:=
 cl (eS g t (g.wrap .i64 (g.quo a0 60)) 2) fun x1=>
 gd ((x1.size+dV.size≤70368744177664))<|
 cl (eS g t (g.rem a0 60) 2) fun x2=>
 gd (((g.cat x1 dV).size+x2.size≤70368744177664))<|
 some (g.cat (g.cat x1 dV) x2)
theorem mz {g:G} {t:TE} {a0:Int} {r:ByteArray} (hg:g=G.real) (ht:t=TE.real) (h:fL g t a0=some r):Fn Tryz.prog 78 [.c (.v (.int .i64 a0))] (.c (.r (.v (.string r)))):=by
 obtain⟨X,hX⟩:=au (.c (.r (.v (.string r))):X);rw[←hX];refine aq (rvs:=rv78) (j:=(ir78 str_k0 dV)) Tryz.func78 rfl (by kernel_rfl) (nb rfl) (by kernel_rfl) ac ?_;intro g2 F hg2 hF;obtain rfl:g2=g:=hg2.unique.trans hg.symm;clear hg2;obtain⟨_⟩:=g2;obtain⟨_⟩:=t;unfold fL at h
 try dsimp only at h
 obtain⟨s_k0,hs_k0⟩:∃s,str_k0=s:=⟨_,rfl⟩;try rw[hs_k0] at h
 rw[hs_k0];obtain⟨s_k10,hs_k10⟩:∃s,dV=s:=⟨_,rfl⟩;try rw[hs_k10] at h
 rw[hs_k10];cbv;refine AStep.mk (by decide) ?_;cbv;obtain⟨x1,hx1,h⟩:=ae h;try dsimp only at h
 refine ACall.mk _ _ rfl (hF _ _ _ (kS hg ht hx1)) (.inl rfl) (nb rfl) ?_;cbv;obtain⟨hc1,h⟩:=ai h;refine AStep.mk (aA hc1) ?_;cbv;refine AStep.mk (by decide) ?_;cbv;obtain⟨x2,hx2,h⟩:=ae h;try dsimp only at h
 refine ACall.mk _ _ rfl (hF _ _ _ (kS hg ht hx2)) (.inl rfl) (nb rfl) ?_;cbv;obtain⟨hc2,h⟩:=ai h;refine AStep.mk (aA hc2) ?_;cbv;obtain rfl:=Option.some.inj h;exact ARet.mk trivial hX.symm
def ir57 (s_k0 s_k11:ByteArray):J:=js [jq 2 (.mv (.k (.c (.r (.v (.string s_k0))))))] [0] (.seq (js [jm 3 0,jc 4 41 [3,(ki 0),(ki 100000)],jq 5 (.not 4)] [0,5] (.cond 5 (js [jq 2 (.mv (.k (.c (.r (.v (.string s_k0))))))] [2] .ret) .skip)) (js [jm 6 0,jb 7 .quo .i 6 (ki 1440),jc 8 58 [7],jq 9 (.bin .add .s 8 (.k (.c (.r (.v (.string s_k11)))))),jm 10 0,jb 11 .rem .i 10 (ki 1440),jc 12 78 [11],jb 13 .add .s 9 12,jm 2 13] [2] .ret))
def rv57:List RV:=[.t 2]
def eu (g:G) (t:TE) (a0:Int):Option ByteArray:=
 lP (dc g t a0 0 100000) fun x1=>
 br x1
 (
  cl (bO g t (g.wrap .i64 (g.quo a0 1440))) fun x2=>
  gd ((x2.size+ag.size≤70368744177664))<|
  cl (fL g t (g.rem a0 1440)) fun x3=>
  gd (((g.cat x2 ag).size+x3.size≤70368744177664))<|
  some (g.cat (g.cat x2 ag) x3))
 (
  some str_k0)
theorem n9 {g:G} {t:TE} {a0:Int} {r:ByteArray} (hg:g=G.real) (ht:t=TE.real) (h:eu g t a0=some r):Fn Tryz.prog 57 [.c (.v (.int .i64 a0))] (.c (.r (.v (.string r)))):=by
 obtain⟨X,hX⟩:=au (.c (.r (.v (.string r))):X);rw[←hX];refine aq (rvs:=rv57) (j:=(ir57 str_k0 ag)) Tryz.func57 rfl (by kernel_rfl) (nb rfl) (by kernel_rfl) ac ?_;intro g2 F hg2 hF;obtain rfl:g2=g:=hg2.unique.trans hg.symm;clear hg2;obtain⟨_⟩:=g2;obtain⟨_⟩:=t;unfold eu at h
 try dsimp only at h
 obtain⟨s_k0,hs_k0⟩:∃s,str_k0=s:=⟨_,rfl⟩;try rw[hs_k0] at h
 rw[hs_k0];obtain⟨s_k11,hs_k11⟩:∃s,ag=s:=⟨_,rfl⟩;try rw[hs_k11] at h
 rw[hs_k11];cbv;obtain⟨x1,hx1,h⟩:=aj h;try dsimp only at h
 refine ACall.mk _ _ rfl (hF _ _ _ (cm hg ht hx1)) (.inl rfl) (nb rfl) ?_;cbv
 cases hb1:x1
 ·rw[aa hb1] at h;cbv;obtain rfl:=Option.some.inj h;exact ARet.mk trivial hX.symm
 rw[ab hb1] at h;cbv;refine AStep.mk (by decide) ?_;cbv;obtain⟨x2,hx2,h⟩:=ae h;try dsimp only at h
 refine ACall.mk _ _ rfl (hF _ _ _ (c7 hg ht hx2)) (.inl rfl) (nb rfl) ?_;cbv;obtain⟨hc1,h⟩:=ai h;refine AStep.mk (aA hc1) ?_;cbv;refine AStep.mk (by decide) ?_;cbv;obtain⟨x3,hx3,h⟩:=ae h;try dsimp only at h
 refine ACall.mk _ _ rfl (hF _ _ _ (mz hg ht hx3)) (.inl rfl) (nb rfl) ?_;cbv;obtain⟨hc2,h⟩:=ai h;refine AStep.mk (aA hc2) ?_;cbv;obtain rfl:=Option.some.inj h;exact ARet.mk trivial hX.symm
def ir23 (s_k0 s_k11 s_k16:ByteArray):J:=js [jq 2 (.box 0),jq 3 (.box 1),jq 4 (.mv (.k (.c (.r (.v (.string s_k0))))))] [2,3] (.seq (js [jl 6 3 2,jl 7 6 3,jc 8 11 [6,7],jq 9 (.not 8)] [3,9] (.cond 9 (js [jq 4 (.mv (.k (.c (.r (.v (.string s_k0))))))] [4] .ret) .skip)) (.seq (.reg (some [[],[0],[0,1],[0,1,2],[],[4],[0,1,2,4,5],[0,1,2,3,4,5,6],[0,1,2,3,4,5,6,7],[],[9],[0,1,2,4,5,6,9,10],[0,1,2,3,4,5,6,7,8,9,10,11],[0,1,2,3,4,5,6,7,8,9,10,11,12],[0,1,2,3,4,5,6,7,8,9,10,11,12,13]]) [jf 10 1 3,jk 11 10,jc 12 57 [11],jq 13 (.bin .add .s 12 (.k (.c (.r (.v (.string s_k11)))))),jf 14 0 3,jk 15 14,jc 16 58 [15],jb 17 .add .s 13 16,jq 18 (.bin .add .s 17 (.k (.c (.r (.v (.string s_k11)))))),jf 19 2 3,jk 20 19,jc 21 51 [20],jb 22 .add .s 18 21,jq 23 (.bin .add .s 22 (.k (.c (.r (.v (.string s_k11)))))),jm 5 23] [3,5]) (.seq (js [jf 24 3 3,jk 25 24,jq 26 (.bin .neq .s 25 (.k (.c (.r (.v (.string s_k0))))))] [3,5,26] (.cond 26 (js [jm 27 5,jf 28 3 3,jk 29 28,jb 30 .add .s 27 29,jm 4 30] [4] .ret) .skip)) (.seq (.reg (some [[],[],[1],[1,2],[1,2,3],[0,1,2,3,4],[0,1,2,3,4,5],[],[7],[7,8],[1,2,3,4,7,8,9],[0,1,2,3,4,5,6,7,8,9,10],[0,1,2,3,4,5,6,7,8,9,10,11]]) [jm 31 5,jf 32 4 3,jf 33 0 32,jk 34 33,jc 35 58 [34],jb 36 .add .s 31 35,jq 37 (.bin .add .s 36 (.k (.c (.r (.v (.string s_k16)))))),jf 38 4 3,jf 39 1 38,jk 40 39,jc 41 58 [40],jb 42 .add .s 37 41,jm 4 42] [4]) .ret))))
def rv23:List RV:=[.t 4]
def ce (g:G) (t:TE) (a0:Network) (a1:Scan):Option ByteArray:=
 cl (gT g t a0 (Scan.mk a1.Thing a1.At a1.Kind a1.Place (Trip.mk a1.Trip.Leg a1.Trip.Day))) fun x1=>
 br x1
 (
  cl (eu g t a1.At) fun x2=>
  gd ((x2.size+ag.size≤70368744177664))<|
  cl (bO g t a1.Thing) fun x3=>
  gd (((g.cat x2 ag).size+x3.size≤70368744177664))<|
  gd (((g.cat (g.cat x2 ag) x3).size+ag.size≤70368744177664))<|
  lP (gR g t a1.Kind) fun x4=>
  gd (((g.cat (g.cat (g.cat x2 ag) x3) ag).size+x4.size≤70368744177664))<|
  gd (((g.cat (g.cat (g.cat (g.cat x2 ag) x3) ag) x4).size+ag.size≤70368744177664))<|
  br (g.seq a1.Place str_k0)
  (
   cl (bO g t a1.Trip.Leg) fun x5=>
   gd (((g.cat (g.cat (g.cat (g.cat (g.cat x2 ag) x3) ag) x4) ag).size+x5.size≤70368744177664))<|
   gd (((g.cat (g.cat (g.cat (g.cat (g.cat (g.cat x2 ag) x3) ag) x4) ag) x5).size+bk.size≤70368744177664))<|
   cl (bO g t a1.Trip.Day) fun x6=>
   gd (((g.cat (g.cat (g.cat (g.cat (g.cat (g.cat (g.cat x2 ag) x3) ag) x4) ag) x5) bk).size+x6.size≤70368744177664))<|
   some (g.cat (g.cat (g.cat (g.cat (g.cat (g.cat (g.cat (g.cat x2 ag) x3) ag) x4) ag) x5) bk) x6))
  (
   gd (((g.cat (g.cat (g.cat (g.cat (g.cat x2 ag) x3) ag) x4) ag).size+a1.Place.size≤70368744177664))<|
   some (g.cat (g.cat (g.cat (g.cat (g.cat (g.cat x2 ag) x3) ag) x4) ag) a1.Place)))
 (
  some str_k0)
theorem f5 {g:G} {t:TE} {a0:Network} {a1:Scan} {r:ByteArray} (hg:g=G.real) (ht:t=TE.real) (h:ce g t a0 a1=some r):Fn Tryz.prog 23 [.g (Network.rs t a0),.g (Scan.rs t a1)] (.c (.r (.v (.string r)))):=by
 obtain⟨X,hX⟩:=au (.c (.r (.v (.string r))):X);rw[←hX];refine aq (rvs:=rv23) (j:=(ir23 str_k0 ag bk)) Tryz.func23 rfl (by kernel_rfl) (nb rfl) (by kernel_rfl) ac ?_;intro g2 F hg2 hF;obtain rfl:g2=g:=hg2.unique.trans hg.symm;clear hg2;obtain⟨_,_,_,_,_,_,_,_,_,_,_,_,_,_,_,_,_,seq⟩:=g2;obtain⟨_⟩:=t;obtain⟨a0_Legs,a0_Off,a0_Change⟩:=a0
 obtain⟨a1_Thing,a1_At,a1_Kind,a1_Place,⟨a1_Trip_Leg,a1_Trip_Day⟩⟩:=a1;unfold ce at h;try dsimp only at h
 obtain⟨s_k0,hs_k0⟩:∃s,str_k0=s:=⟨_,rfl⟩;try rw[hs_k0] at h
 rw[hs_k0];obtain⟨s_k11,hs_k11⟩:∃s,ag=s:=⟨_,rfl⟩;try rw[hs_k11] at h
 rw[hs_k11];obtain⟨s_k16,hs_k16⟩:∃s,bk=s:=⟨_,rfl⟩;try rw[hs_k16] at h
 rw[hs_k16];cbv;obtain⟨x1,hx1,h⟩:=ae h;try dsimp only at h
 refine ACall.mk _ _ rfl (hF _ _ _ (nv hg ht hx1)) (.inl rfl) (nb rfl) ?_;cbv
 cases hb1:x1
 ·rw[aa hb1] at h;cbv;obtain rfl:=Option.some.inj h;exact ARet.mk trivial hX.symm
 rw[ab hb1] at h;cbv;obtain⟨x2,hx2,h⟩:=ae h;try dsimp only at h
 refine ACall.mk _ _ rfl (hF _ _ _ (n9 hg ht hx2)) (.inl rfl) (nb rfl) ?_;cbv;obtain⟨hc1,h⟩:=ai h;refine AStep.mk (aA hc1) ?_;cbv;obtain⟨x3,hx3,h⟩:=ae h;try dsimp only at h
 refine ACall.mk _ _ rfl (hF _ _ _ (c7 hg ht hx3)) (.inl rfl) (nb rfl) ?_;cbv;obtain⟨hc2,h⟩:=ai h;refine AStep.mk (aA hc2) ?_;cbv;obtain⟨hc3,h⟩:=ai h;refine AStep.mk (aA hc3) ?_;cbv;obtain⟨x4,hx4,h⟩:=aj h;try dsimp only at h
 refine ACall.mk _ _ rfl (hF _ _ _ (nZ hg ht hx4)) (.inl rfl) (nb rfl) ?_;cbv;obtain⟨hc4,h⟩:=ai h;refine AStep.mk (aA hc4) ?_;cbv;obtain⟨hc5,h⟩:=ai h;refine AStep.mk (aA hc5) ?_;cbv
 cases hb2:(seq a1_Place s_k0)
 ·rw[aa hb2] at h;cbv;obtain⟨hc9,h⟩:=ai h;refine AStep.mk (aA hc9) ?_;cbv;obtain rfl:=Option.some.inj h;exact ARet.mk trivial hX.symm
 rw[ab hb2] at h;cbv;obtain⟨x5,hx5,h⟩:=ae h;try dsimp only at h
 refine ACall.mk _ _ rfl (hF _ _ _ (c7 hg ht hx5)) (.inl rfl) (nb rfl) ?_;cbv;obtain⟨hc6,h⟩:=ai h;refine AStep.mk (aA hc6) ?_;cbv;obtain⟨hc7,h⟩:=ai h;refine AStep.mk (aA hc7) ?_;cbv;obtain⟨x6,hx6,h⟩:=ae h;try dsimp only at h
 refine ACall.mk _ _ rfl (hF _ _ _ (c7 hg ht hx6)) (.inl rfl) (nb rfl) ?_;cbv;obtain⟨hc8,h⟩:=ai h;refine AStep.mk (aA hc8) ?_;cbv;obtain rfl:=Option.some.inj h;exact ARet.mk trivial hX.symm
def ir48:J:=js [jq 4 (.mv (.k (.c (.n 1))))] [0,1] (js [jq 8 (.bsl 1 []),jm 5 8] [0,1,5] (js [jm 6 (ki 0)] [0,1,5,6] (.seq (js [jm 7 (ki 0)] [0,1,5,6,7] (.bl 0 (.seq (js [jm 9 7,jm 10 0,jq 11 (.len true 10),jb 12 .lss .i 9 11] [0,1,5,6,7,12] (.cond 12 .skip (.exit 0))) (.seq (.block 1 (js [jm 15 0,jm 16 7,jq 17 (.idx 15 16),jm 18 1,jb 19 .eql .i 17 18] [0,1,5,6,7,19] (.cond 19 (js [jm 20 5,jm 21 0,jm 22 6,jm 23 7,jq 24 (.ssl 21 (some 22) (some 23)),jq 25 (.bsl 1 [24]),jq 26 (.app 1 16 true 20 25),jm 5 26] [0,1,5,7] (.reg none [jm 27 7,jb 28 .add .i 27 (ki 1),jm 6 28] [0,1,5,6,7])) .skip))) (.reg none [jm 13 7,jb 14 .add .i 13 (ki 1),jm 7 14] [0,1,5,6,7]))))) (js [jm 29 5,jm 30 0,jm 31 6,jq 32 (.ssl 30 (some 31) none),jq 33 (.bsl 1 [32]),jq 34 (.app 1 16 true 29 33),jm 4 34] [4] .ret))))
def rv48:List RV:=[.t 4]
def bK (g:G) (t:TE) (a0:ByteArray) (a1:Int):Nat→Int→List ByteArray→Int→Option ((List ByteArray)×Int)
 |0,v2,w1,v1=>
  some (w1,v1)
 |n1+1,v2,w1,v1=>
  br (g.eq (g.byte a0 v2) a1)
  (
   gd (((0:Int)≤v1∧v1≤v2∧v2≤(((a0.size):Nat):Int)))<|
   lP ([(g.sub3 a0 v1 v2)]) fun(l2:List ByteArray)=>
   gd (((w1.length+l2.length)*16≤70368744177664))<|
   lP (w1++l2) fun(l3:List ByteArray)=>
   bK g t a0 a1 n1 (g.wrap .i64 (g.add v2 1)) l3 (g.wrap .i64 (g.add v2 1)))
  (
   bK g t a0 a1 n1 (g.wrap .i64 (g.add v2 1)) w1 v1)
def dA (g:G) (t:TE) (a0:ByteArray) (a1:Int):Option (List ByteArray):=
 lP ([]) fun(l1:List ByteArray)=>
 gd (((g.int (g.slen a0))≤9223372036854775807))<|
 cl (bK g t a0 a1 (aO 0 (g.int (g.slen a0))) 0 l1 0) fun y1=>
 gd (((0:Int)≤y1.2∧y1.2≤(g.int (g.slen a0))∧(g.int (g.slen a0))≤(((a0.size):Nat):Int)))<|
 lP ([(g.sub3 a0 y1.2 (g.int (g.slen a0)))]) fun(l4:List ByteArray)=>
 gd (((y1.1.length+l4.length)*16≤70368744177664))<|
 lP (y1.1++l4) fun(l5:List ByteArray)=>
 some l5
theorem gp {g:G} {t:TE} {a0:ByteArray} {a1:Int} {r:List ByteArray} (hg:g=G.real) (ht:t=TE.real) (h:dA g t a0 a1=some r):Fn Tryz.prog 48 [.c (.v (.string a0)),.c (.v (.int .u8 a1))] (.c (.o 1 (t.d_S r))):=by
 obtain⟨X,hX⟩:=au (.c (.o 1 (t.d_S r)):X);rw[←hX];refine aq (rvs:=rv48) (j:=ir48) Tryz.func48 rfl (by kernel_rfl) (nb rfl) (by kernel_rfl) ac ?_;intro g2 F hg2 hF;obtain rfl:g2=g:=hg2.unique.trans hg.symm;clear hg2;obtain⟨wrap,lt,_,eq,_,_,_,_,_,_,_,_,int,add,_,_,_,_,_,sub3,byte,_,_,_,dlen,_,_,_,_,_,_,_,_,_,_,slen⟩:=g2;obtain⟨_,_,_,_,_,_,_,d_S⟩:=t;unfold dA at h;try dsimp only at h
 cbv;obtain⟨l1,hl1,h⟩:=aj h;try dsimp only at h
 refine ANew.mk (d_S l1) (dlen (d_S l1)) (by rw[←hl1];exact e9 hg ht []) (by rw[←hl1];exact dN hg ht []) ?_;cbv;obtain⟨hB1,h⟩:=ai h;obtain⟨o1,ho1,h⟩:=ae h;try dsimp only at h
 try rw[hg] at ho1
 try rw[ht] at ho1
 refine ABL.mk {p:Nat×Int×(List ByteArray)×Int//p.1=aO p.2.1 (int (slen a0))∧0≤p.2.1∧bK G.real TE.real a0 a1 p.1 p.2.1 p.2.2.1 p.2.2.2=some o1} (fun⟨⟨n1,v2,w1,v1⟩,_⟩=>({sl:=[(0,.c (.r (.v (.string a0)))),(1,.c (.r (.v (.int .u8 a1)))),(5,.c (.f 0 1 0 (dlen (d_S w1)))),(6,.c (.r (.v (.int .i64 v1)))),(7,.c (.r (.v (.int .i64 v2))))],tab:=[(0,some (.arr 1 (d_S w1)))]}:St)) 1 (fun p=>p.1.1) ⟨(aO 0 (int (slen a0)),0,l1,0),rfl,Int.le_refl _,ho1⟩ ((List ByteArray)×Int) (fun⟨y1_1,y1_2⟩=>({sl:=[(0,.c (.r (.v (.string a0)))),(5,.c (.f 0 1 0 (dlen (d_S y1_1)))),(6,.c (.r (.v (.int .i64 y1_2))))],tab:=[(0,some (.arr 1 (d_S y1_1)))]}:St)) 1 (fun y=>o1=y) ?_ ?_ ?_
 ·refine Wk.of [(0,some 16)] rfl rfl ?_ ?_
  ·cbv;all_goals exact⟨⟨_,rfl,rfl⟩,⟨_,rfl,rfl⟩,⟨_,rfl,rfl⟩,⟨_,rfl,rfl⟩,⟨_,rfl,rfl⟩,trivial⟩
  cbv;all_goals exact⟨⟨_,rfl,rfl⟩,trivial⟩
 ·rintro⟨⟨n1,v2,w1,v1⟩,hn1,hi1,h_1⟩ hq1;try dsimp only at hn1 hi1 h_1
  clear hq1;cbv;rcases n1 with _|n1
  ·have hb1:lt v2 (int (slen a0))=false:=c8 hg hn1;rw[bK] at h_1;try rw[←hg] at h_1
   try rw[←ht] at h_1
   try dsimp only at h_1
   rw[hb1];cbv;refine⟨(w1,v1),Wk.of [(0,some 0)] rfl rfl ?_ ?_,(Option.some.inj h_1).symm⟩
   ·cbv;all_goals exact⟨⟨_,rfl,rfl⟩,⟨_,rfl,rfl⟩,⟨_,rfl,rfl⟩,trivial⟩
   cbv;all_goals exact⟨⟨_,rfl,rfl⟩,trivial⟩
  have hb1:lt v2 (int (slen a0))=true:=dQ hg hn1;have hl1:=gz hn1;have hs1:=eT hg hn1 hi1 hB1 (by decide);rw[bK] at h_1;try rw[←hg] at h_1
  try rw[←ht] at h_1
  try dsimp only at h_1
  rw[hb1];cbv;refine AStep.mk (kG hg hi1 hl1) ?_;cbv
  cases hb2:(eq (byte a0 v2) a1)
  ·rw[aa hb2] at h_1;cbv;try rw[hg] at h_1
   try rw[ht] at h_1
   refine⟨⟨(n1,(wrap .i64 (add v2 1)),w1,v1),hs1.1,hs1.2,h_1⟩,Wk.of [(0,some 0)] rfl rfl ?_ ?_,Nat.lt_succ_self _⟩
   ·cbv;all_goals exact⟨⟨_,rfl,rfl⟩,⟨_,rfl,rfl⟩,⟨_,rfl,rfl⟩,⟨_,rfl,rfl⟩,⟨_,rfl,rfl⟩,trivial⟩
   cbv;all_goals exact⟨⟨_,rfl,rfl⟩,trivial⟩
  rw[ab hb2] at h_1;cbv;obtain⟨hc1,h_1⟩:=ai h_1;refine AStep.mk hc1 ?_;cbv;obtain⟨l2,hl2,h_1⟩:=aj h_1;try dsimp only at h_1
  refine ANew.mk (d_S l2) (dlen (d_S l2)) (by rw[←hl2];exact e9 hg ht [(sub3 a0 v1 v2)]) (by rw[←hl2];exact dN hg ht [(sub3 a0 v1 v2)]) ?_;cbv;obtain⟨hc2,h_1⟩:=ai h_1;refine AStep.mk ⟨⟨rfl,(ao hg ht _)⟩,(bR hg ht (ao hg ht _) rfl hc2)⟩ ?_;cbv;obtain⟨l3,hl3,h_1⟩:=aj h_1;try dsimp only at h_1
  refine ANew.mk (d_S l3) (dlen (d_S l3)) (by rw[←hl3];exact f9 hg ht (ao hg ht _) rfl) (by rw[←hl3];exact dX hg ht (ao hg ht _) rfl) ?_;cbv;try rw[hg] at h_1
  try rw[ht] at h_1
  refine⟨⟨(n1,(wrap .i64 (add v2 1)),l3,(wrap .i64 (add v2 1))),hs1.1,hs1.2,h_1⟩,Wk.of [(0,some 241)] rfl rfl ?_ ?_,Nat.lt_succ_self _⟩
  ·cbv;all_goals exact⟨⟨_,rfl,rfl⟩,⟨_,rfl,rfl⟩,⟨_,rfl,rfl⟩,⟨_,rfl,rfl⟩,⟨_,rfl,rfl⟩,trivial⟩
  cbv;all_goals exact⟨⟨_,rfl,rfl⟩,trivial⟩
 rintro⟨y1_1,y1_2⟩ hy1;replace hy1:=hy1.symm;subst hy1;try dsimp only[lr,lrL,lrp,bu] at h
 cbv;obtain⟨hc3,h⟩:=ai h;refine AStep.mk hc3 ?_;cbv;obtain⟨l4,hl4,h⟩:=aj h;try dsimp only at h
 refine ANew.mk (d_S l4) (dlen (d_S l4)) (by rw[←hl4];exact e9 hg ht [(sub3 a0 y1_2 (int (slen a0)))]) (by rw[←hl4];exact dN hg ht [(sub3 a0 y1_2 (int (slen a0)))]) ?_;cbv;obtain⟨hc4,h⟩:=ai h;refine AStep.mk ⟨⟨rfl,(ao hg ht _)⟩,(bR hg ht (ao hg ht _) rfl hc4)⟩ ?_;cbv;obtain⟨l5,hl5,h⟩:=aj h;try dsimp only at h
 refine ANew.mk (d_S l5) (dlen (d_S l5)) (by rw[←hl5];exact f9 hg ht (ao hg ht _) rfl) (by rw[←hl5];exact dX hg ht (ao hg ht _) rfl) ?_;cbv;obtain rfl:=Option.some.inj h;exact ARet.mk ⟨rfl,(ao hg ht _)⟩ hX.symm
def ir50:J:=js [jm 2 (ki 0),jm 3 kf] [0] (js [jm 4 (ki 0)] [0,4] (.seq (js [jm 5 (ki 0)] [0,4,5] (.bl 0 (.seq (js [jm 6 5,jm 7 0,jq 8 (.len true 7),jb 9 .lss .i 6 8,jm 10 9,ju 11 10 (.mv 5),ju 12 10 (.bin .lss .i 11 (ki 11)),jq 13 (.pick 10 12 kf)] [0,4,5,13] (.cond 13 .skip (.exit 0))) (.seq (.block 1 (.seq (js [jm 16 0,jm 17 5,jq 18 (.idx 16 17),jq 19 (.cvt .i64 18),jc 20 41 [19,(ki 48),(ki 57)],jq 21 (.not 20)] [0,4,5,21] (.cond 21 (js [jm 2 (ki 0),jm 3 kf] [2,3] .ret) .skip)) (.reg none [jm 22 4,jb 23 .mul .i (ki 10) 22,jm 24 0,jm 25 5,jq 26 (.idx 24 25),jq 27 (.bin .sub .i 26 (.k (.c (.r (.v (.int .u8 48)))))),jq 28 (.cvt .i64 27),jb 29 .add .i 23 28,jm 4 29] [0,4,5]))) (.reg none [jm 14 5,jb 15 .add .i 14 (ki 1),jm 5 15] [0,4,5]))))) (.seq (js [jm 30 4,jb 31 .gtr .i 30 (ki 1000000000),jm 32 31,jv 33 32 (.mv 4),jv 34 32 (.call 58 true [33]),jv 35 32 (.mv 0),jv 36 32 (.bin .neq .s 34 35),jq 37 (.pick 32 kt 36)] [4,37] (.cond 37 (js [jm 2 (ki 0),jm 3 kf] [2,3] .ret) .skip)) (js [jm 38 4,jm 2 38,jm 3 kt] [2,3] .ret))))
def rv50:List RV:=[.t 2,.t 3]
def aR (g:G) (t:TE) (a0:ByteArray):Nat→Int→Int→LR (Int×Bool) Int
 |0,v2,v1=>
  (LR.out v1)
 |n1+1,v2,v1=>
  br (g.lt v2 11)
  (
   lP (dc g t (g.wrap .i64 (g.byte a0 v2)) 48 57) fun x1=>
   br x1
   (
    aR g t a0 n1 (g.wrap .i64 (g.add v2 1)) (g.wrap .i64 (g.add (g.wrap .i64 (g.mul 10 v1)) (g.wrap .i64 (g.wrap .u8 (g.sub (g.byte a0 v2) 48))))))
   (
    (LR.ret ((0,false)))))
  (
   (LR.out v1))
def bJ (g:G) (t:TE) (a0:ByteArray):Option (Int×Bool):=
 gd (((g.int (g.slen a0))≤9223372036854775807))<|
 lP (aR g t a0 (aO 0 (g.int (g.slen a0))) 0 0) fun o1=>lr o1 fun y1=>
 br (g.lt 1000000000 y1)
 (
  some ((0,false)))
 (
  cl (bO g t y1) fun x2=>
  br (g.seq x2 a0)
  (
   some ((y1,true)))
  (
   some ((0,false))))
theorem dz {g:G} {t:TE} {a0:ByteArray} {r:Int×Bool} (hg:g=G.real) (ht:t=TE.real) (h:bJ g t a0=some r):Fn Tryz.prog 50 [.c (.v (.string a0))] (.u [.c (.r (.v (.int .i64 r.1))),.c (.r (.v (.bool r.2)))]):=by
 obtain⟨X,hX⟩:=au (.u [.c (.r (.v (.int .i64 r.1))),.c (.r (.v (.bool r.2)))]:X);rw[←hX];refine aq (rvs:=rv50) (j:=ir50) Tryz.func50 rfl (by kernel_rfl) (nb rfl) (by kernel_rfl) ac ?_;intro g2 F hg2 hF;obtain rfl:g2=g:=hg2.unique.trans hg.symm;clear hg2;obtain⟨wrap,lt,_,_,_,_,_,_,_,_,_,_,int,add,sub,mul,_,seq,_,_,byte,_,_,_,_,_,_,_,_,_,_,_,_,_,_,slen⟩:=g2;obtain⟨_⟩:=t
 unfold bJ at h;try dsimp only at h
 cbv;obtain⟨hB1,h⟩:=ai h;obtain⟨o1,ho1,h⟩:=aj h;try dsimp only at h
 try rw[hg] at ho1
 try rw[ht] at ho1
 refine ABL.mk {p:Nat×Int×Int//p.1=aO p.2.1 (int (slen a0))∧0≤p.2.1∧aR G.real TE.real a0 p.1 p.2.1 p.2.2=o1} (fun⟨⟨n1,v2,v1⟩,_⟩=>({sl:=[(0,.c (.r (.v (.string a0)))),(4,.c (.r (.v (.int .i64 v1)))),(5,.c (.r (.v (.int .i64 v2))))],tab:=[]}:St)) 0 (fun p=>p.1.1) ⟨(aO 0 (int (slen a0)),0,0),rfl,Int.le_refl _,ho1⟩ (Int) (fun y1=>({sl:=[(0,.c (.r (.v (.string a0)))),(4,.c (.r (.v (.int .i64 y1))))],tab:=[]}:St)) 0 (fun y=>o1=LR.out y) ?_ ?_ ?_
 ·refine Wk.of [] rfl rfl ?_ ?_
  ·cbv;all_goals exact⟨⟨_,rfl,rfl⟩,⟨_,rfl,rfl⟩,⟨_,rfl,rfl⟩,trivial⟩
  cbv;all_goals exact trivial
 ·rintro⟨⟨n1,v2,v1⟩,hn1,hi1,h_1⟩ hq1;try dsimp only at hn1 hi1 h_1
  clear hq1;cbv;rcases n1 with _|n1
  ·have hb1:lt v2 (int (slen a0))=false:=c8 hg hn1;rw[aR] at h_1;try rw[←hg] at h_1
   try rw[←ht] at h_1
   try dsimp only at h_1
   rw[hb1];cbv;iterate 2 try(rw[hb1];cbv)
   refine⟨v1,Wk.of [] rfl rfl ?_ ?_,h_1.symm⟩
   ·cbv;all_goals exact⟨⟨_,rfl,rfl⟩,⟨_,rfl,rfl⟩,trivial⟩
   cbv;all_goals exact trivial
  have hb1:lt v2 (int (slen a0))=true:=dQ hg hn1;have hl1:=gz hn1;have hs1:=eT hg hn1 hi1 hB1 (by decide);rw[aR] at h_1;try rw[←hg] at h_1
  try rw[←ht] at h_1
  try dsimp only at h_1
  rw[hb1];cbv;iterate 2 try(rw[hb1];cbv)
  cases hb2:(lt v2 11)
  ·rw[aa hb2] at h_1;cbv;refine⟨v1,Wk.of [] rfl rfl ?_ ?_,h_1.symm⟩
   ·cbv;all_goals exact⟨⟨_,rfl,rfl⟩,⟨_,rfl,rfl⟩,trivial⟩
   cbv;all_goals exact trivial
  rw[ab hb2] at h_1;cbv;refine AStep.mk (kG hg hi1 hl1) ?_;cbv;obtain⟨x1,hx1,h_1⟩:=aj h_1;try dsimp only at h_1
  refine ACall.mk _ _ rfl (hF _ _ _ (cm hg ht hx1)) (.inl rfl) (nb rfl) ?_;cbv
  cases hb3:x1
  ·rw[aa hb3] at h_1;cbv;subst h_1;try dsimp only[lr,lrL,lrp,bu] at h
   obtain rfl:=Option.some.inj h;exact ARet.mk trivial hX.symm
  rw[ab hb3] at h_1;cbv;refine AStep.mk (kG hg hi1 hl1) ?_;cbv;try rw[hg] at h_1
  try rw[ht] at h_1
  refine⟨⟨(n1,(wrap .i64 (add v2 1)),(wrap .i64 (add (wrap .i64 (mul 10 v1)) (wrap .i64 (wrap .u8 (sub (byte a0 v2) 48)))))),hs1.1,hs1.2,h_1⟩,Wk.of [] rfl rfl ?_ ?_,Nat.lt_succ_self _⟩
  ·cbv;all_goals exact⟨⟨_,rfl,rfl⟩,⟨_,rfl,rfl⟩,⟨_,rfl,rfl⟩,trivial⟩
  cbv;all_goals exact trivial
 rintro y1 hy1;replace hy1:=hy1.symm;subst hy1;try dsimp only[lr,lrL,lrp,bu] at h
 cbv
 cases hb4:(lt 1000000000 y1)
 rotate_left
 ·rw[ab hb4] at h;cbv;iterate 4 try(rw[hb4];cbv)
  obtain rfl:=Option.some.inj h;exact ARet.mk trivial hX.symm
 rw[aa hb4] at h;cbv;try(rw[hb4];cbv)
 obtain⟨x2,hx2,h⟩:=ae h;try dsimp only at h
 refine ACall.mk _ _ rfl (hF _ _ _ (c7 hg ht hx2)) (.inl rfl) (nb rfl) ?_;cbv;iterate 3 try(rw[hb4];cbv)
 cases hb5:(seq x2 a0)
 rotate_left
 ·rw[ab hb5] at h;cbv;obtain rfl:=Option.some.inj h;exact ARet.mk trivial hX.symm
 rw[aa hb5] at h;cbv;obtain rfl:=Option.some.inj h;exact ARet.mk trivial hX.symm
def ir75:J:=js [jm 2 (ki 0)] [0] (.seq (js [jm 6 0,jq 7 (.len true 6),jb 8 .neq .i 7 (ki 5)] [0,8] (.cond 8 (js [jq 2 (.mv (.k (V.i (-1))))] [2] .ret) .skip)) (js [jm 3 (ki 0)] [0,3] (.seq (js [jm 4 (ki 0)] [0,3,4] (.bl 0 (.seq (js [jm 9 4,jb 10 .lss .i 9 (ki 5)] [0,3,4,10] (.cond 10 .skip (.exit 0))) (.seq (.block 1 (js [jm 13 4,jb 14 .neq .i 13 (ki 2)] [0,3,4,14] (.cond 14 (.reg none [jm 15 3,jb 16 .mul .i (ki 10) 15,jm 17 0,jm 18 4,jq 19 (.idx 17 18),jq 20 (.cvt .i64 19),jb 21 .add .i 16 20,jb 22 .sub .i 21 (ki 48),jm 3 22] [0,3,4]) .skip))) (.reg none [jm 11 4,jb 12 .add .i 11 (ki 1),jm 4 12] [0,3,4]))))) (js [jm 23 3,jb 24 .quo .i 23 (ki 100),jb 25 .mul .i 24 (ki 60),jm 26 3,jb 27 .rem .i 26 (ki 100),jb 28 .add .i 25 27,jm 5 28] [0,5] (.seq (js [jm 29 5,jc 30 41 [29,(ki 0),(ki 1439)],jq 31 (.not 30),jm 32 31,jv 33 32 (.mv 5),jv 34 32 (.call 78 true [33]),jv 35 32 (.mv 0),jv 36 32 (.bin .neq .s 34 35),jq 37 (.pick 32 kt 36)] [5,37] (.cond 37 (js [jq 2 (.mv (.k (V.i (-1))))] [2] .ret) .skip)) (js [jm 38 5,jm 2 38] [2] .ret))))))
def rv75:List RV:=[.t 2]
def aS (g:G) (t:TE) (a0:ByteArray):Nat→Int→Int→Option Int
 |0,v2,v1=>
  some v1
 |n1+1,v2,v1=>
  br (g.eq v2 2)
  (
   aS g t a0 n1 (g.wrap .i64 (g.add v2 1)) v1)
  (
   gd (((0:Int)≤v2∧v2<(((a0.size):Nat):Int)))<|
   aS g t a0 n1 (g.wrap .i64 (g.add v2 1)) (g.wrap .i64 (g.sub (g.wrap .i64 (g.add (g.wrap .i64 (g.mul 10 v1)) (g.wrap .i64 (g.byte a0 v2)))) 48)))
def f8 (g:G) (t:TE) (a0:ByteArray):Option Int:=
 br (g.eq (g.int (g.slen a0)) 5)
 (
  cl (aS g t a0 (aO 0 5) 0 0) fun y1=>
  lP (dc g t (g.wrap .i64 (g.add (g.wrap .i64 (g.mul (g.wrap .i64 (g.quo y1 100)) 60)) (g.rem y1 100))) 0 1439) fun x1=>
  br x1
  (
   cl (fL g t (g.wrap .i64 (g.add (g.wrap .i64 (g.mul (g.wrap .i64 (g.quo y1 100)) 60)) (g.rem y1 100)))) fun x2=>
   br (g.seq x2 a0)
   (
    some (g.wrap .i64 (g.add (g.wrap .i64 (g.mul (g.wrap .i64 (g.quo y1 100)) 60)) (g.rem y1 100))))
   (
    some (-1)))
  (
   some (-1)))
 (
  some (-1))
theorem ra {g:G} {t:TE} {a0:ByteArray} {r:Int} (hg:g=G.real) (ht:t=TE.real) (h:f8 g t a0=some r):Fn Tryz.prog 75 [.c (.v (.string a0))] (.c (.r (.v (.int .i64 r)))):=by
 obtain⟨X,hX⟩:=au (.c (.r (.v (.int .i64 r))):X);rw[←hX];refine aq (rvs:=rv75) (j:=ir75) Tryz.func75 rfl (by kernel_rfl) (nb rfl) (by kernel_rfl) ac ?_;intro g2 F hg2 hF;obtain rfl:g2=g:=hg2.unique.trans hg.symm;clear hg2;obtain⟨wrap,lt,_,eq,_,_,_,_,_,_,_,_,int,add,sub,mul,_,seq,_,_,byte,_,_,_,_,_,_,_,_,_,_,_,_,_,_,slen⟩:=g2;obtain⟨_⟩:=t;unfold f8 at h;try dsimp only at h
 cbv
 cases hb1:(eq (int (slen a0)) 5)
 ·rw[aa hb1] at h;cbv;obtain rfl:=Option.some.inj h;exact ARet.mk trivial hX.symm
 rw[ab hb1] at h;cbv;obtain⟨o1,ho1,h⟩:=ae h;try dsimp only at h
 try rw[hg] at ho1
 try rw[ht] at ho1
 refine ABL.mk {p:Nat×Int×Int//p.1=aO p.2.1 5∧0≤p.2.1∧aS G.real TE.real a0 p.1 p.2.1 p.2.2=some o1} (fun⟨⟨n1,v2,v1⟩,_⟩=>({sl:=[(0,.c (.r (.v (.string a0)))),(3,.c (.r (.v (.int .i64 v1)))),(4,.c (.r (.v (.int .i64 v2))))],tab:=[]}:St)) 0 (fun p=>p.1.1) ⟨(aO 0 5,0,0),rfl,Int.le_refl _,ho1⟩ (Int) (fun y1=>({sl:=[(0,.c (.r (.v (.string a0)))),(3,.c (.r (.v (.int .i64 y1))))],tab:=[]}:St)) 0 (fun y=>o1=y) ?_ ?_ ?_
 ·refine Wk.of [] rfl rfl ?_ ?_
  ·cbv;all_goals exact⟨⟨_,rfl,rfl⟩,⟨_,rfl,rfl⟩,⟨_,rfl,rfl⟩,trivial⟩
  cbv;all_goals exact trivial
 ·rintro⟨⟨n1,v2,v1⟩,hn1,hi1,h_1⟩ hq1;try dsimp only at hn1 hi1 h_1
  clear hq1;cbv;rcases n1 with _|n1
  ·have hb2:lt v2 5=false:=c8 hg hn1;rw[aS] at h_1;try rw[←hg] at h_1
   try rw[←ht] at h_1
   try dsimp only at h_1
   rw[hb2];cbv;refine⟨v1,Wk.of [] rfl rfl ?_ ?_,(Option.some.inj h_1).symm⟩
   ·cbv;all_goals exact⟨⟨_,rfl,rfl⟩,⟨_,rfl,rfl⟩,trivial⟩
   cbv;all_goals exact trivial
  have hb2:lt v2 5=true:=dQ hg hn1;have hl1:=gz hn1;have hs1:=eT hg hn1 hi1 (by decide) (by decide);rw[aS] at h_1;try rw[←hg] at h_1
  try rw[←ht] at h_1
  try dsimp only at h_1
  rw[hb2];cbv
  cases hb3:(eq v2 2)
  rotate_left
  ·rw[ab hb3] at h_1;cbv;try rw[hg] at h_1
   try rw[ht] at h_1
   refine⟨⟨(n1,(wrap .i64 (add v2 1)),v1),hs1.1,hs1.2,h_1⟩,Wk.of [] rfl rfl ?_ ?_,Nat.lt_succ_self _⟩
   ·cbv;all_goals exact⟨⟨_,rfl,rfl⟩,⟨_,rfl,rfl⟩,⟨_,rfl,rfl⟩,trivial⟩
   cbv;all_goals exact trivial
  rw[aa hb3] at h_1;cbv;obtain⟨hc1,h_1⟩:=ai h_1;refine AStep.mk hc1 ?_;cbv;try rw[hg] at h_1
  try rw[ht] at h_1
  refine⟨⟨(n1,(wrap .i64 (add v2 1)),(wrap .i64 (sub (wrap .i64 (add (wrap .i64 (mul 10 v1)) (wrap .i64 (byte a0 v2)))) 48))),hs1.1,hs1.2,h_1⟩,Wk.of [] rfl rfl ?_ ?_,Nat.lt_succ_self _⟩
  ·cbv;all_goals exact⟨⟨_,rfl,rfl⟩,⟨_,rfl,rfl⟩,⟨_,rfl,rfl⟩,trivial⟩
  cbv;all_goals exact trivial
 rintro y1 hy1;replace hy1:=hy1.symm;subst hy1;try dsimp only[lr,lrL,lrp,bu] at h
 cbv;refine AStep.mk (by decide) ?_;cbv;refine AStep.mk (by decide) ?_;cbv;obtain⟨x1,hx1,h⟩:=aj h;try dsimp only at h
 refine ACall.mk _ _ rfl (hF _ _ _ (cm hg ht hx1)) (.inl rfl) (nb rfl) ?_;cbv
 cases hb4:x1
 ·rw[aa hb4] at h;cbv;iterate 4 try(rw[hb4];cbv)
  obtain rfl:=Option.some.inj h;exact ARet.mk trivial hX.symm
 rw[ab hb4] at h;cbv;try(rw[hb4];cbv)
 obtain⟨x2,hx2,h⟩:=ae h;try dsimp only at h
 refine ACall.mk _ _ rfl (hF _ _ _ (mz hg ht hx2)) (.inl rfl) (nb rfl) ?_;cbv;iterate 3 try(rw[hb4];cbv)
 cases hb5:(seq x2 a0)
 rotate_left
 ·rw[ab hb5] at h;cbv;obtain rfl:=Option.some.inj h;exact ARet.mk trivial hX.symm
 rw[aa hb5] at h;cbv;obtain rfl:=Option.some.inj h;exact ARet.mk trivial hX.symm
def ir49:J:=js [jm 2 (ki 0),jm 3 kf] [0] (js [jm 8 0,jc 9 48 [8,(.k (.c (.r (.v (.int .u8 32)))))],jm 4 9] [4] (.seq (js [jm 10 4,jq 11 (.len false 10),jb 12 .neq .i 11 (ki 2)] [4,12] (.cond 12 (js [jm 2 (ki 0),jm 3 kf] [2,3] .ret) .skip)) (js [jm 14 4,jq 15 (.ia 1 14 (ki 0)),jk 16 15,jc 17 50 [16],jm 13 17,jq 18 (.ext 0 13),jq 19 (.ext 1 13),jm 5 18,jm 6 19] [4,5,6] (js [jm 20 4,jq 21 (.ia 1 20 (ki 1)),jk 22 21,jc 23 75 [22],jm 7 23] [5,6,7] (.seq (js [jm 24 6,jq 25 (.not 24),jm 26 25,jv 27 26 (.mv 7),jv 28 26 (.bin .lss .i 27 (ki 0)),jq 29 (.pick 26 kt 28),jm 30 29,jv 31 30 (.mv 5),jv 32 30 (.bin .gtr .i 31 (ki 100000)),jq 33 (.pick 30 kt 32),jm 34 33,jv 35 34 (.mv 5),jv 36 34 (.bin .mul .i 35 (ki 1440)),jv 37 34 (.mv 7),jv 38 34 (.bin .add .i 36 37),jv 39 34 (.bin .gtr .i 38 (ki 100000)),jq 40 (.pick 34 kt 39)] [5,7,40] (.cond 40 (js [jm 2 (ki 0),jm 3 kf] [2,3] .ret) .skip)) (js [jm 41 5,jb 42 .mul .i 41 (ki 1440),jm 43 7,jb 44 .add .i 42 43,jm 2 44,jm 3 kt] [2,3] .ret))))))
def rv49:List RV:=[.t 2,.t 3]
def fg (g:G) (t:TE) (a0:ByteArray):Option (Int×Bool):=
 cl (dA g t a0 32) fun x1=>
 br (g.eq (g.int (g.dlen (t.d_S x1))) 2)
 (
  gd (((0:Int)≤0∧0<(((g.dlen (t.d_S x1)):Nat):Int)))<|
  gt x1 (g.nat 0) fun x2=>
  cl (bJ g t x2) fun x3=>
  gd (((0:Int)≤1∧1<(((g.dlen (t.d_S x1)):Nat):Int)))<|
  gt x1 (g.nat 1) fun x4=>
  cl (f8 g t x4) fun x5=>
  br x3.2
  (
   br (g.lt x5 0)
   (
    some ((0,false)))
   (
    br (g.lt 100000 x3.1)
    (
     some ((0,false)))
    (
     br (g.lt 100000 (g.wrap .i64 (g.add (g.wrap .i64 (g.mul x3.1 1440)) x5)))
     (
      some ((0,false)))
     (
      some (((g.wrap .i64 (g.add (g.wrap .i64 (g.mul x3.1 1440)) x5)),true))))))
  (
   some ((0,false))))
 (
  some ((0,false)))
theorem pf {g:G} {t:TE} {a0:ByteArray} {r:Int×Bool} (hg:g=G.real) (ht:t=TE.real) (h:fg g t a0=some r):Fn Tryz.prog 49 [.c (.v (.string a0))] (.u [.c (.r (.v (.int .i64 r.1))),.c (.r (.v (.bool r.2)))]):=by
 obtain⟨X,hX⟩:=au (.u [.c (.r (.v (.int .i64 r.1))),.c (.r (.v (.bool r.2)))]:X);rw[←hX];refine aq (rvs:=rv49) (j:=ir49) Tryz.func49 rfl (by kernel_rfl) (nb rfl) (by kernel_rfl) ac ?_;intro g2 F hg2 hF;obtain rfl:g2=g:=hg2.unique.trans hg.symm;clear hg2;obtain⟨wrap,lt,_,eq,_,_,_,_,_,_,_,_,int,add,_,mul,_,_,_,_,_,_,_,_,dlen⟩:=g2;obtain⟨_,_,_,_,_,_,_,d_S⟩:=t
 unfold fg at h;try dsimp only at h
 cbv;obtain⟨x1,hx1,h⟩:=ae h;try dsimp only at h
 refine ACall.mk _ _ rfl (hF _ _ _ (gp hg ht hx1)) (.inl rfl) (nb rfl) ?_;cbv
 cases hb1:(eq (int (dlen (d_S x1))) 2)
 ·rw[aa hb1] at h;cbv;obtain rfl:=Option.some.inj h;exact ARet.mk trivial hX.symm
 rw[ab hb1] at h;cbv;obtain⟨hc1,h⟩:=ai h;refine AStep.mk hc1 ?_;cbv;obtain⟨x2,hx2,h⟩:=aP h;try dsimp only at h
 refine AGet.mk _ (a7 hg ht hx2) ?_;cbv;obtain⟨x3,hx3,h⟩:=ae h;obtain⟨x3_1,x3_2⟩:=x3;try dsimp only at h
 refine ACall.mk _ _ rfl (hF _ _ _ (dz hg ht hx3)) (.inl rfl) (nb rfl) ?_;cbv;obtain⟨hc2,h⟩:=ai h;refine AStep.mk hc2 ?_;cbv;obtain⟨x4,hx4,h⟩:=aP h;try dsimp only at h
 refine AGet.mk _ (a7 hg ht hx4) ?_;cbv;obtain⟨x5,hx5,h⟩:=ae h;try dsimp only at h
 refine ACall.mk _ _ rfl (hF _ _ _ (ra hg ht hx5)) (.inl rfl) (nb rfl) ?_;cbv;have hb2:x3_2=true∨x3_2=false:=by cases x3_2<;>simp
 rcases hb2 with hb2|hb2
 ·rw[ab hb2] at h;have hK_:=h;subst hb2;have h:=hK_;clear hK_;cbv;iterate 2 try(rw[hb2];cbv)
  cases hb3:(lt x5 0)
  rotate_left
  ·rw[ab hb3] at h;cbv;iterate 2 try(rw[hb3];cbv)
   obtain rfl:=Option.some.inj h;exact ARet.mk trivial hX.symm
  rw[aa hb3] at h;cbv;iterate 2 try(rw[hb3];cbv)
  cases hb4:(lt 100000 x3_1)
  rotate_left
  ·rw[ab hb4] at h;cbv;iterate 5 try(rw[hb4];cbv)
   obtain rfl:=Option.some.inj h;exact ARet.mk trivial hX.symm
  rw[aa hb4] at h;cbv;iterate 5 try(rw[hb4];cbv)
  cases hb5:(lt 100000 (wrap .i64 (add (wrap .i64 (mul x3_1 1440)) x5)))
  rotate_left
  ·rw[ab hb5] at h;cbv;obtain rfl:=Option.some.inj h;exact ARet.mk trivial hX.symm
  rw[aa hb5] at h;cbv;obtain rfl:=Option.some.inj h;exact ARet.mk trivial hX.symm
 rw[aa hb2] at h;have hK_:=h;subst hb2;have h:=hK_;clear hK_;cbv;iterate 2 try(rw[hb2];cbv)
 obtain rfl:=Option.some.inj h;exact ARet.mk trivial hX.symm
def ir18 (s_k0 s_k11:ByteArray):J:=js [jq 2 (.box 0),jq 4 (.alloc [.r (.v (.int .i64 0)),.r (.v (.int .i64 0)),.r (.v (.int .i64 0)),.r (.v (.string .empty)),.r (.v (.int .i64 0)),.r (.v (.int .i64 0))]),jm 5 kf] [1,2,4] (js [jm 18 1,jc 19 48 [18,(.k (.c (.r (.v (.int .u8 32)))))],jm 6 19] [1,2,4,6] (.seq (js [jm 20 6,jq 21 (.len false 20),jb 22 .neq .i 21 (ki 5)] [1,2,4,6,22] (.cond 22 (js [jq 23 (.bld [.r (.v (.int .i64 0)),.r (.v (.int .i64 0)),.r (.v (.int .i64 0)),.r (.v (.string .empty)),.r (.v (.int .i64 0)),.r (.v (.int .i64 0))] []),jp (.st 6 4 23),jm 5 kf] [4,5] .ret) .skip)) (.seq (.reg (some [[],[0],[0,1],[0,1,2],[],[4],[4,5],[0,1,2,3,4,5,6],[0,1,2,3,4,5,6,7],[0,1,2,3,4,5,6,7,8],[0,1,2,3,4,5,6,7,8,9],[0,1,2,3,4,5,6,7,8,9],[0,1,2,3,4,5,6,7,8,9,10],[0,1,2,3,4,5,6,7,8,9,10,11,12]]) [jm 25 6,jq 26 (.ia 1 25 (ki 0)),jk 27 26,jq 28 (.bin .add .s 27 (.k (.c (.r (.v (.string s_k11)))))),jm 29 6,jq 30 (.ia 1 29 (ki 1)),jk 31 30,jb 32 .add .s 28 31,jc 33 49 [32],jm 24 33,jq 34 (.ext 0 24),jq 35 (.ext 1 24),jm 7 34,jm 8 35] [1,2,4,6,7,8]) (js [jm 37 6,jq 38 (.ia 1 37 (ki 2)),jk 39 38,jc 40 50 [39],jm 36 40,jq 41 (.ext 0 36),jq 42 (.ext 1 36),jm 9 41,jm 10 42] [1,2,4,6,7,8,9,10] (js [jm 43 9,jm 44 7,jm 45 6,jq 46 (.ia 1 45 (ki 4)),jk 47 46,jq 48 (.bld [.r (.v (.int .i64 0)),.r (.v (.int .i64 0)),.r (.v (.int .i64 0)),.r (.v (.string .empty)),.r (.v (.int .i64 0)),.r (.v (.int .i64 0))] [(0,1,43),(1,1,44),(3,1,47)]),jq 11 (.alloc [.r (.v (.int .i64 0)),.r (.v (.int .i64 0)),.r (.v (.int .i64 0)),.r (.v (.string .empty)),.r (.v (.int .i64 0)),.r (.v (.int .i64 0))]),jp (.st 6 11 48)] [1,2,4,6,8,10,11] (.seq (js [jm 12 (ki 1)] [1,2,4,6,8,10,11,12] (.bl 0 (.seq (js [jm 49 12,jb 50 .leq .i 49 (ki 4)] [1,2,4,6,8,10,11,12,50] (.cond 50 .skip (.exit 0))) (.seq (.block 1 (.seq (.reg (some [[],[0],[],[2],[2,3],[0,1,2,3,4]]) [jm 53 12,jc 54 51 [53],jm 55 6,jq 56 (.ia 1 55 (ki 3)),jk 57 56,jb 58 .eql .s 54 57] [1,2,4,6,8,10,11,12,58]) (.cond 58 (.reg none [jm 59 12,jf 60 2 11,jp (.st 1 60 59)] [1,2,4,6,8,10,11,12]) .skip))) (.reg none [jm 51 12,jb 52 .add .i 51 (ki 1),jm 12 52] [1,2,4,6,8,10,11,12]))))) (.seq (js [jf 61 2 11,jk 62 61,jb 63 .eql .i 62 (ki 3),jm 64 63,jv 65 64 (.fa 2 11),jv 66 64 (.ld false 1 65),jv 67 64 (.bin .eql .i 66 (ki 2)),jq 68 (.pick 64 kt 67)] [1,2,4,6,8,10,11,68] (.cond 68 (js [jm 69 6,jq 70 (.ia 1 69 (ki 4)),jk 71 70,jc 72 48 [71,(.k (.c (.r (.v (.int .u8 47)))))],jm 13 72] [1,2,4,8,10,11,13] (.seq (js [jm 73 13,jq 74 (.len false 73),jb 75 .neq .i 74 (ki 2)] [1,2,4,8,10,11,13,75] (.cond 75 (js [jq 76 (.bld [.r (.v (.int .i64 0)),.r (.v (.int .i64 0)),.r (.v (.int .i64 0)),.r (.v (.string .empty)),.r (.v (.int .i64 0)),.r (.v (.int .i64 0))] []),jp (.st 6 4 76),jm
 5 kf] [4,5] .ret) .skip)) (js [jm 78 13,jq 79 (.ia 1 78 (ki 0)),jk 80 79,jc 81 50 [80],jm 77 81,jq 82 (.ext 0 77),jq 83 (.ext 1 77),jm 14 82,jm 15 83] [1,2,4,8,10,11,13,14] (js [jm 85 13,jq 86 (.ia 1 85 (ki 1)),jk 87 86,jc 88 50 [87],jm 84 88,jq 89 (.ext 0 84),jq 90 (.ext 1 84),jm 16 89,jm 17 90] [1,2,4,8,10,11,14,16] (js [jf 91 3 11,jp (.st 1 91 (.k (.c (.r (.v (.string s_k0))))))] [1,2,4,8,10,11,14,16] (.reg none [jm 92 14,jm 93 16,jq 94 (.bld [.r (.v (.int .i64 0)),.r (.v (.int .i64 0))] [(0,1,92),(1,1,93)]),jf 95 4 11,jp (.st 2 95 94)] [1,2,4,8,10,11])))))) .skip)) (.seq (js [jm 96 8,jq 97 (.not 96),jm 98 97,jv 99 98 (.mv 10),jv 100 98 (.not 99),jq 101 (.pick 98 kt 100),jm 102 101,jv 103 102 (.ld true 3 2),jv 104 102 (.ld true 6 11),jv 105 102 (.call 23 true [103,104]),jv 106 102 (.mv 1),jv 107 102 (.bin .neq .s 105 106),jq 108 (.pick 102 kt 107)] [4,11,108] (.cond 108 (js [jq 109 (.bld [.r (.v (.int .i64 0)),.r (.v (.int .i64 0)),.r (.v (.int .i64 0)),.r (.v (.string .empty)),.r (.v (.int .i64 0)),.r (.v (.int .i64 0))] []),jp (.st 6 4 109),jm 5 kf] [4,5] .ret) .skip)) (js [jl 110 6 11,jp (.st 6 4 110),jm 5 kt] [4,5] .ret)))))))))
def rv18:List RV:=[.c 4 true 6,.t 5]
def aV (g:G) (t:TE) (x1:List ByteArray):Nat→Int→Int→Option Int
 |0,v2,v1=>
  some v1
 |n1+1,v2,v1=>
  lP (gR g t v2) fun x8=>
  gd (((0:Int)≤3∧3<(((g.dlen (t.d_S x1)):Nat):Int)))<|
  gt x1 (g.nat 3) fun x9=>
  br (g.seq x8 x9)
  (
   aV g t x1 n1 (g.wrap .i64 (g.add v2 1)) v2)
  (
   aV g t x1 n1 (g.wrap .i64 (g.add v2 1)) v1)
def eX (g:G) (t:TE) (a0:Network) (a1:ByteArray):Option (Scan×Bool):=
 cl (dA g t a1 32) fun x1=>
 br (g.eq (g.int (g.dlen (t.d_S x1))) 5)
 (
  gd (((0:Int)≤0∧0<(((g.dlen (t.d_S x1)):Nat):Int)))<|
  gt x1 (g.nat 0) fun x2=>
  gd ((x2.size+ag.size≤70368744177664))<|
  gd (((0:Int)≤1∧1<(((g.dlen (t.d_S x1)):Nat):Int)))<|
  gt x1 (g.nat 1) fun x3=>
  gd (((g.cat x2 ag).size+x3.size≤70368744177664))<|
  cl (fg g t (g.cat (g.cat x2 ag) x3)) fun x4=>
  gd (((0:Int)≤2∧2<(((g.dlen (t.d_S x1)):Nat):Int)))<|
  gt x1 (g.nat 2) fun x5=>
  cl (bJ g t x5) fun x6=>
  gd (((0:Int)≤4∧4<(((g.dlen (t.d_S x1)):Nat):Int)))<|
  gt x1 (g.nat 4) fun x7=>
  cl (aV g t x1 (dn 1 4) 1 0) fun y1=>
  br (g.eq y1 3)
  (
   gd (((0:Int)≤4∧4<(((g.dlen (t.d_S x1)):Nat):Int)))<|
   cl (dA g t x7 47) fun x10=>
   br (g.eq (g.int (g.dlen (t.d_S x10))) 2)
   (
    gd (((0:Int)≤0∧0<(((g.dlen (t.d_S x10)):Nat):Int)))<|
    gt x10 (g.nat 0) fun x11=>
    cl (bJ g t x11) fun x12=>
    gd (((0:Int)≤1∧1<(((g.dlen (t.d_S x10)):Nat):Int)))<|
    gt x10 (g.nat 1) fun x13=>
    cl (bJ g t x13) fun x14=>
    br x4.2
    (
     br x6.2
     (
      cl (ce g t a0 (Scan.mk x6.1 x4.1 y1 str_k0 (Trip.mk x12.1 x14.1))) fun x15=>
      br (g.seq x15 a1)
      (
       some (((Scan.mk x6.1 x4.1 y1 str_k0 (Trip.mk x12.1 x14.1)),true)))
      (
       some (((Scan.mk 0 0 0 ByteArray.empty (Trip.mk 0 0)),false))))
     (
      some (((Scan.mk 0 0 0 ByteArray.empty (Trip.mk 0 0)),false))))
    (
     some (((Scan.mk 0 0 0 ByteArray.empty (Trip.mk 0 0)),false))))
   (
    some (((Scan.mk 0 0 0 ByteArray.empty (Trip.mk 0 0)),false))))
  (
   br (g.eq y1 2)
   (
    gd (((0:Int)≤4∧4<(((g.dlen (t.d_S x1)):Nat):Int)))<|
    cl (dA g t x7 47) fun x16=>
    br (g.eq (g.int (g.dlen (t.d_S x16))) 2)
    (
     gd (((0:Int)≤0∧0<(((g.dlen (t.d_S x16)):Nat):Int)))<|
     gt x16 (g.nat 0) fun x17=>
     cl (bJ g t x17) fun x18=>
     gd (((0:Int)≤1∧1<(((g.dlen (t.d_S x16)):Nat):Int)))<|
     gt x16 (g.nat 1) fun x19=>
     cl (bJ g t x19) fun x20=>
     br x4.2
     (
      br x6.2
      (
       cl (ce g t a0 (Scan.mk x6.1 x4.1 y1 str_k0 (Trip.mk x18.1 x20.1))) fun x21=>
       br (g.seq x21 a1)
       (
        some (((Scan.mk x6.1 x4.1 y1 str_k0 (Trip.mk x18.1 x20.1)),true)))
       (
        some (((Scan.mk 0 0 0 ByteArray.empty (Trip.mk 0 0)),false))))
      (
       some (((Scan.mk 0 0 0 ByteArray.empty (Trip.mk 0 0)),false))))
     (
      some (((Scan.mk 0 0 0 ByteArray.empty (Trip.mk 0 0)),false))))
    (
     some (((Scan.mk 0 0 0 ByteArray.empty (Trip.mk 0 0)),false))))
   (
    br x4.2
    (
     br x6.2
     (
      cl (ce g t a0 (Scan.mk x6.1 x4.1 y1 x7 (Trip.mk 0 0))) fun x22=>
      br (g.seq x22 a1)
      (
       some (((Scan.mk x6.1 x4.1 y1 x7 (Trip.mk 0 0)),true)))
      (
       some (((Scan.mk 0 0 0 ByteArray.empty (Trip.mk 0 0)),false))))
     (
      some (((Scan.mk 0 0 0 ByteArray.empty (Trip.mk 0 0)),false))))
    (
     some (((Scan.mk 0 0 0 ByteArray.empty (Trip.mk 0 0)),false))))))
 (
  some (((Scan.mk 0 0 0 ByteArray.empty (Trip.mk 0 0)),false)))
theorem pi {g:G} {t:TE} {a0:Network} {a1:ByteArray} {r:Scan×Bool} (hg:g=G.real) (ht:t=TE.real) (h:eX g t a0 a1=some r):Fn Tryz.prog 18 [.g (Network.rs t a0),.c (.v (.string a1))] (.u [.g (Scan.ds t r.1),.c (.r (.v (.bool r.2)))]):=by
 obtain⟨X,hX⟩:=au (.u [.g (Scan.ds t r.1),.c (.r (.v (.bool r.2)))]:X);rw[←hX];refine aq (rvs:=rv18) (j:=(ir18 str_k0 ag)) Tryz.func18 rfl (by kernel_rfl) (nb rfl) (by kernel_rfl) ac ?_;intro g2 F hg2 hF;obtain rfl:g2=g:=hg2.unique.trans hg.symm;clear hg2;obtain⟨wrap,_,le,eq,_,_,_,_,_,_,_,_,int,add,_,_,_,seq,_,_,_,_,_,_,dlen⟩:=g2;obtain⟨_,_,r_Leg,_,r_I64,_,_,d_S⟩:=t
 obtain⟨a0_Legs,a0_Off,a0_Change⟩:=a0;unfold eX at h;try dsimp only at h
 obtain⟨s_k0,hs_k0⟩:∃s,str_k0=s:=⟨_,rfl⟩;try rw[hs_k0] at h
 rw[hs_k0];obtain⟨s_k11,hs_k11⟩:∃s,ag=s:=⟨_,rfl⟩;try rw[hs_k11] at h
 rw[hs_k11];cbv;obtain⟨x1,hx1,h⟩:=ae h;try dsimp only at h
 refine ACall.mk _ _ rfl (hF _ _ _ (gp hg ht hx1)) (.inl rfl) (nb rfl) ?_;cbv
 cases hb1:(eq (int (dlen (d_S x1))) 5)
 ·rw[aa hb1] at h;cbv;obtain rfl:=Option.some.inj h;exact ARet.mk trivial hX.symm
 rw[ab hb1] at h;cbv;obtain⟨hc1,h⟩:=ai h;refine AStep.mk hc1 ?_;cbv;obtain⟨x2,hx2,h⟩:=aP h;try dsimp only at h
 refine AGet.mk _ (a7 hg ht hx2) ?_;cbv;obtain⟨hc2,h⟩:=ai h;refine AStep.mk (aA hc2) ?_;cbv;obtain⟨hc3,h⟩:=ai h;refine AStep.mk hc3 ?_;cbv;obtain⟨x3,hx3,h⟩:=aP h;try dsimp only at h
 refine AGet.mk _ (a7 hg ht hx3) ?_;cbv;obtain⟨hc4,h⟩:=ai h;refine AStep.mk (aA hc4) ?_;cbv;obtain⟨x4,hx4,h⟩:=ae h;obtain⟨x4_1,x4_2⟩:=x4;try dsimp only at h
 refine ACall.mk _ _ rfl (hF _ _ _ (pf hg ht hx4)) (.inl rfl) (nb rfl) ?_;cbv;obtain⟨hc5,h⟩:=ai h;refine AStep.mk hc5 ?_;cbv;obtain⟨x5,hx5,h⟩:=aP h;try dsimp only at h
 refine AGet.mk _ (a7 hg ht hx5) ?_;cbv;obtain⟨x6,hx6,h⟩:=ae h;obtain⟨x6_1,x6_2⟩:=x6;try dsimp only at h
 refine ACall.mk _ _ rfl (hF _ _ _ (dz hg ht hx6)) (.inl rfl) (nb rfl) ?_;cbv;obtain⟨hc6,h⟩:=ai h;refine AStep.mk hc6 ?_;cbv;obtain⟨x7,hx7,h⟩:=aP h;try dsimp only at h
 refine AGet.mk _ (a7 hg ht hx7) ?_;cbv;obtain⟨o1,ho1,h⟩:=ae h;try dsimp only at h
 try rw[hg] at ho1
 try rw[ht] at ho1
 refine ABL.mk {p:Nat×Int×Int//p.1=dn p.2.1 4∧1≤p.2.1∧aV G.real TE.real x1 p.1 p.2.1 p.2.2=some o1} (fun⟨⟨n1,v2,v1⟩,_⟩=>({sl:=[(1,.c (.r (.v (.string a1)))),(2,.c (.p 0 3 0 0)),(4,.c (.p 1 6 0 0)),(6,.c (.f 2 1 0 (dlen (d_S x1)))),(8,.c (.r (.v (.bool x4_2)))),(10,.c (.r (.v (.bool x6_2)))),(11,.c (.p 3 6 0 0)),(12,.c (.r (.v (.int .i64 v2))))],tab:=[(0,some (.foc 3 [] [.r (.s 6 (r_Leg a0_Legs)),.r (.s 1 (r_I64 a0_Off)),.r (.v (.int .i64 a0_Change))] [])),(1,some (.foc 6 [] [.r (.v (.int .i64 0)),.r (.v (.int .i64 0)),.r (.v (.int .i64 0)),.r (.v (.string ByteArray.empty)),.r (.v (.int .i64 0)),.r (.v (.int .i64 0))] [])),(2,some (.arr 1 (d_S x1))),(3,some (.foc 6 [] [.r (.v (.int .i64 x6_1)),.r (.v (.int .i64 x4_1)),.r (.v (.int .i64 v1)),.r (.v (.string x7)),.r (.v (.int .i64 0)),.r (.v (.int .i64 0))] []))]}:St)) 4 (fun p=>p.1.1) ⟨(dn 1 4,1,0),rfl,Int.le_refl _,ho1⟩ (Int) (fun y1=>({sl:=[(1,.c (.r (.v (.string a1)))),(2,.c (.p 0 3 0 0)),(4,.c (.p 1 6 0 0)),(6,.c (.f 2 1 0 (dlen (d_S x1)))),(8,.c (.r (.v (.bool x4_2)))),(10,.c (.r (.v (.bool x6_2)))),(11,.c (.p 3 6 0 0))],tab:=[(0,some (.foc 3 [] [.r (.s 6 (r_Leg a0_Legs)),.r (.s 1 (r_I64 a0_Off)),.r (.v (.int .i64 a0_Change))] [])),(1,some (.foc 6 [] [.r (.v (.int .i64 0)),.r (.v (.int .i64 0)),.r (.v (.int .i64 0)),.r (.v (.string ByteArray.empty)),.r (.v (.int .i64 0)),.r (.v (.int .i64 0))] [])),(2,some (.arr 1 (d_S x1))),(3,some (.foc 6 [] [.r (.v (.int .i64 x6_1)),.r (.v (.int .i64 x4_1)),.r (.v (.int .i64 y1)),.r (.v (.string x7)),.r (.v (.int .i64 0)),.r (.v (.int .i64 0))] []))]}:St)) 4 (fun y=>o1=y) ?_ ?_ ?_
 ·refine Wk.of [(0,some 0),(1,some 16),(2,some 64),(3,some 608)] rfl rfl ?_ ?_
  ·cbv;all_goals exact⟨⟨_,rfl,rfl⟩,⟨_,rfl,rfl⟩,⟨_,rfl,rfl⟩,⟨_,rfl,rfl⟩,⟨_,rfl,rfl⟩,⟨_,rfl,rfl⟩,⟨_,rfl,rfl⟩,⟨_,rfl,rfl⟩,trivial⟩
  cbv;all_goals exact⟨⟨_,rfl,_,rfl,rfl,rfl,rfl,trivial⟩,⟨_,rfl,_,rfl,rfl,rfl,rfl,rfl,rfl,rfl,trivial⟩,⟨_,rfl,rfl⟩,⟨_,rfl,_,rfl,rfl,rfl,rfl,rfl,rfl,rfl,trivial⟩,trivial⟩
 ·rintro⟨⟨n1,v2,v1⟩,hn1,hi1,h_1⟩ hq1;try dsimp only at hn1 hi1 h_1
  clear hq1;cbv;rcases n1 with _|n1
  ·have hb2:le v2 4=false:=ln hg hn1;rw[aV] at h_1;try rw[←hg] at h_1
   try rw[←ht] at h_1
   try dsimp only at h_1
   try rw[hs_k0] at h_1
   try rw[hs_k11] at h_1
   rw[hb2];cbv;refine⟨v1,Wk.of [(0,some 0),(1,some 1),(2,some 2),(3,some 3)] rfl rfl ?_ ?_,(Option.some.inj h_1).symm⟩
   ·cbv;all_goals exact⟨⟨_,rfl,rfl⟩,⟨_,rfl,rfl⟩,⟨_,rfl,rfl⟩,⟨_,rfl,rfl⟩,⟨_,rfl,rfl⟩,⟨_,rfl,rfl⟩,⟨_,rfl,rfl⟩,trivial⟩
   cbv;all_goals exact⟨⟨_,rfl,_,rfl,rfl,rfl,rfl,trivial⟩,⟨_,rfl,_,rfl,rfl,rfl,rfl,rfl,rfl,rfl,trivial⟩,⟨_,rfl,rfl⟩,⟨_,rfl,_,rfl,rfl,rfl,rfl,rfl,rfl,rfl,trivial⟩,trivial⟩
  have hb2:le v2 4=true:=nF hg hn1;have hl1:=tx hn1;have hs1:=qq hg hn1 hi1 (by decide) (by decide);rw[aV] at h_1;try rw[←hg] at h_1
  try rw[←ht] at h_1
  try dsimp only at h_1
  try rw[hs_k0] at h_1
  try rw[hs_k11] at h_1
  rw[hb2];cbv;obtain⟨x8,hx8,h_1⟩:=aj h_1;try dsimp only at h_1
  refine ACall.mk _ _ rfl (hF _ _ _ (nZ hg ht hx8)) (.inl rfl) (nb rfl) ?_;cbv;obtain⟨hc7,h_1⟩:=ai h_1;refine AStep.mk hc7 ?_;cbv;obtain⟨x9,hx9,h_1⟩:=aP h_1;try dsimp only at h_1
  refine AGet.mk _ (a7 hg ht hx9) ?_;cbv
  cases hb3:(seq x8 x9)
  rotate_left
  ·rw[ab hb3] at h_1;cbv;try rw[hg] at h_1
   try rw[ht] at h_1
   refine⟨⟨(n1,(wrap .i64 (add v2 1)),v2),hs1.1,hs1.2,h_1⟩,Wk.of [(0,some 0),(1,some 1),(2,some 2),(3,some 3)] rfl rfl ?_ ?_,Nat.lt_succ_self _⟩
   ·cbv;all_goals exact⟨⟨_,rfl,rfl⟩,⟨_,rfl,rfl⟩,⟨_,rfl,rfl⟩,⟨_,rfl,rfl⟩,⟨_,rfl,rfl⟩,⟨_,rfl,rfl⟩,⟨_,rfl,rfl⟩,⟨_,rfl,rfl⟩,trivial⟩
   cbv;all_goals exact⟨⟨_,rfl,_,rfl,rfl,rfl,rfl,trivial⟩,⟨_,rfl,_,rfl,rfl,rfl,rfl,rfl,rfl,rfl,trivial⟩,⟨_,rfl,rfl⟩,⟨_,rfl,_,rfl,rfl,rfl,rfl,rfl,rfl,rfl,trivial⟩,trivial⟩
  rw[aa hb3] at h_1;cbv;try rw[hg] at h_1
  try rw[ht] at h_1
  refine⟨⟨(n1,(wrap .i64 (add v2 1)),v1),hs1.1,hs1.2,h_1⟩,Wk.of [(0,some 0),(1,some 1),(2,some 2),(3,some 3)] rfl rfl ?_ ?_,Nat.lt_succ_self _⟩
  ·cbv;all_goals exact⟨⟨_,rfl,rfl⟩,⟨_,rfl,rfl⟩,⟨_,rfl,rfl⟩,⟨_,rfl,rfl⟩,⟨_,rfl,rfl⟩,⟨_,rfl,rfl⟩,⟨_,rfl,rfl⟩,⟨_,rfl,rfl⟩,trivial⟩
  cbv;all_goals exact⟨⟨_,rfl,_,rfl,rfl,rfl,rfl,trivial⟩,⟨_,rfl,_,rfl,rfl,rfl,rfl,rfl,rfl,rfl,trivial⟩,⟨_,rfl,rfl⟩,⟨_,rfl,_,rfl,rfl,rfl,rfl,rfl,rfl,rfl,trivial⟩,trivial⟩
 rintro y1 hy1;replace hy1:=hy1.symm;subst hy1;try dsimp only[lr,lrL,lrp,bu] at h
 cbv
 cases hb4:(eq y1 3)
 rotate_left
 ·rw[ab hb4] at h;cbv;iterate 3 try(rw[hb4];cbv)
  obtain⟨hc8,h⟩:=ai h;refine AStep.mk hc8 ?_;cbv;refine AGet.mk _ (a7 hg ht hx7) ?_;cbv;obtain⟨x10,hx10,h⟩:=ae h;try dsimp only at h
  refine ACall.mk _ _ rfl (hF _ _ _ (gp hg ht hx10)) (.inl rfl) (nb rfl) ?_;cbv
  cases hb5:(eq (int (dlen (d_S x10))) 2)
  ·rw[aa hb5] at h;cbv;obtain rfl:=Option.some.inj h;exact ARet.mk trivial hX.symm
  rw[ab hb5] at h;cbv;obtain⟨hc9,h⟩:=ai h;refine AStep.mk hc9 ?_;cbv;obtain⟨x11,hx11,h⟩:=aP h;try dsimp only at h
  refine AGet.mk _ (a7 hg ht hx11) ?_;cbv;obtain⟨x12,hx12,h⟩:=ae h;obtain⟨x12_1,x12_2⟩:=x12;try dsimp only at h
  refine ACall.mk _ _ rfl (hF _ _ _ (dz hg ht hx12)) (.inl rfl) (nb rfl) ?_;cbv;obtain⟨hc10,h⟩:=ai h;refine AStep.mk hc10 ?_;cbv;obtain⟨x13,hx13,h⟩:=aP h;try dsimp only at h
  refine AGet.mk _ (a7 hg ht hx13) ?_;cbv;obtain⟨x14,hx14,h⟩:=ae h;obtain⟨x14_1,x14_2⟩:=x14;try dsimp only at h
  refine ACall.mk _ _ rfl (hF _ _ _ (dz hg ht hx14)) (.inl rfl) (nb rfl) ?_;cbv;have hb6:x4_2=true∨x4_2=false:=by cases x4_2<;>simp
  rcases hb6 with hb6|hb6
  ·rw[ab hb6] at h;have hK_:=h;subst hb6;have h:=hK_;clear hK_;cbv;iterate 2 try(rw[hb6];cbv)
   have hb7:x6_2=true∨x6_2=false:=by cases x6_2<;>simp
   rcases hb7 with hb7|hb7
   ·rw[ab hb7] at h;have hK_:=h;subst hb7;have h:=hK_;clear hK_;cbv;iterate 2 try(rw[hb7];cbv)
    obtain⟨x15,hx15,h⟩:=ae h;try dsimp only at h
    refine ACall.mk _ _ rfl (hF _ _ _ (f5 hg ht hx15)) (.inl rfl) (nb rfl) ?_;cbv;iterate 3 try(rw[hb7];cbv)
    cases hb8:(seq x15 a1)
    rotate_left
    ·rw[ab hb8] at h;cbv;obtain rfl:=Option.some.inj h;exact ARet.mk trivial hX.symm
    rw[aa hb8] at h;cbv;obtain rfl:=Option.some.inj h;exact ARet.mk trivial hX.symm
   rw[aa hb7] at h;have hK_:=h;subst hb7;have h:=hK_;clear hK_;cbv;iterate 5 try(rw[hb7];cbv)
   obtain rfl:=Option.some.inj h;exact ARet.mk trivial hX.symm
  rw[aa hb6] at h;have hK_:=h;subst hb6;have h:=hK_;clear hK_;cbv;iterate 2 try(rw[hb6];cbv)
  obtain rfl:=Option.some.inj h;exact ARet.mk trivial hX.symm
 rw[aa hb4] at h;cbv;iterate 3 try(rw[hb4];cbv)
 cases hb9:(eq y1 2)
 ·rw[aa hb9] at h;cbv;have hb14:x4_2=true∨x4_2=false:=by cases x4_2<;>simp
  rcases hb14 with hb14|hb14
  ·rw[ab hb14] at h;have hK_:=h;subst hb14;have h:=hK_;clear hK_;cbv;iterate 2 try(rw[hb14];cbv)
   have hb15:x6_2=true∨x6_2=false:=by cases x6_2<;>simp
   rcases hb15 with hb15|hb15
   ·rw[ab hb15] at h;have hK_:=h;subst hb15;have h:=hK_;clear hK_;cbv;iterate 2 try(rw[hb15];cbv)
    obtain⟨x22,hx22,h⟩:=ae h;try dsimp only at h
    refine ACall.mk _ _ rfl (hF _ _ _ (f5 hg ht hx22)) (.inl rfl) (nb rfl) ?_;cbv;iterate 3 try(rw[hb15];cbv)
    cases hb16:(seq x22 a1)
    rotate_left
    ·rw[ab hb16] at h;cbv;obtain rfl:=Option.some.inj h;exact ARet.mk trivial hX.symm
    rw[aa hb16] at h;cbv;obtain rfl:=Option.some.inj h;exact ARet.mk trivial hX.symm
   rw[aa hb15] at h;have hK_:=h;subst hb15;have h:=hK_;clear hK_;cbv;iterate 5 try(rw[hb15];cbv)
   obtain rfl:=Option.some.inj h;exact ARet.mk trivial hX.symm
  rw[aa hb14] at h;have hK_:=h;subst hb14;have h:=hK_;clear hK_;cbv;iterate 2 try(rw[hb14];cbv)
  obtain rfl:=Option.some.inj h;exact ARet.mk trivial hX.symm
 rw[ab hb9] at h;cbv;obtain⟨hc11,h⟩:=ai h;refine AStep.mk hc11 ?_;cbv;refine AGet.mk _ (a7 hg ht hx7) ?_;cbv;obtain⟨x16,hx16,h⟩:=ae h;try dsimp only at h
 refine ACall.mk _ _ rfl (hF _ _ _ (gp hg ht hx16)) (.inl rfl) (nb rfl) ?_;cbv
 cases hb10:(eq (int (dlen (d_S x16))) 2)
 ·rw[aa hb10] at h;cbv;obtain rfl:=Option.some.inj h;exact ARet.mk trivial hX.symm
 rw[ab hb10] at h;cbv;obtain⟨hc12,h⟩:=ai h;refine AStep.mk hc12 ?_;cbv;obtain⟨x17,hx17,h⟩:=aP h;try dsimp only at h
 refine AGet.mk _ (a7 hg ht hx17) ?_;cbv;obtain⟨x18,hx18,h⟩:=ae h;obtain⟨x18_1,x18_2⟩:=x18;try dsimp only at h
 refine ACall.mk _ _ rfl (hF _ _ _ (dz hg ht hx18)) (.inl rfl) (nb rfl) ?_;cbv;obtain⟨hc13,h⟩:=ai h;refine AStep.mk hc13 ?_;cbv;obtain⟨x19,hx19,h⟩:=aP h;try dsimp only at h
 refine AGet.mk _ (a7 hg ht hx19) ?_;cbv;obtain⟨x20,hx20,h⟩:=ae h;obtain⟨x20_1,x20_2⟩:=x20;try dsimp only at h
 refine ACall.mk _ _ rfl (hF _ _ _ (dz hg ht hx20)) (.inl rfl) (nb rfl) ?_;cbv;have hb11:x4_2=true∨x4_2=false:=by cases x4_2<;>simp
 rcases hb11 with hb11|hb11
 ·rw[ab hb11] at h;have hK_:=h;subst hb11;have h:=hK_;clear hK_;cbv;iterate 2 try(rw[hb11];cbv)
  have hb12:x6_2=true∨x6_2=false:=by cases x6_2<;>simp
  rcases hb12 with hb12|hb12
  ·rw[ab hb12] at h;have hK_:=h;subst hb12;have h:=hK_;clear hK_;cbv;iterate 2 try(rw[hb12];cbv)
   obtain⟨x21,hx21,h⟩:=ae h;try dsimp only at h
   refine ACall.mk _ _ rfl (hF _ _ _ (f5 hg ht hx21)) (.inl rfl) (nb rfl) ?_;cbv;iterate 3 try(rw[hb12];cbv)
   cases hb13:(seq x21 a1)
   rotate_left
   ·rw[ab hb13] at h;cbv;obtain rfl:=Option.some.inj h;exact ARet.mk trivial hX.symm
   rw[aa hb13] at h;cbv;obtain rfl:=Option.some.inj h;exact ARet.mk trivial hX.symm
  rw[aa hb12] at h;have hK_:=h;subst hb12;have h:=hK_;clear hK_;cbv;iterate 5 try(rw[hb12];cbv)
  obtain rfl:=Option.some.inj h;exact ARet.mk trivial hX.symm
 rw[aa hb11] at h;have hK_:=h;subst hb11;have h:=hK_;clear hK_;cbv;iterate 2 try(rw[hb11];cbv)
 obtain rfl:=Option.some.inj h;exact ARet.mk trivial hX.symm
def ir12 (s_k0:ByteArray):J:=js [jq 2 (.box 0),jq 3 (.box 1),jq 4 (.mv (.k (.c (.r (.v (.string s_k0))))))] [2,3] (.seq (js [jl 5 3 2,jl 6 6 3,jc 7 10 [5,6],jq 8 (.not 7)] [2,3,8] (.cond 8 (js [jq 4 (.mv (.k (.c (.r (.v (.string s_k0))))))] [4] .ret) .skip)) (.seq (js [jf 9 2 3,jk 10 9] [2,3,10] (.block 0 (js [jb 12 .eql .i 10 (ki 3),jm 11 12] [2,3,10,11] (.cond 11 (js [jf 13 0 2,jk 14 13,jf 15 4 3,jf 16 0 15,jk 17 16,ja 18 6 14 17,jf 19 0 18,jk 20 19,jm 4 20] [4] .ret) (js [jb 22 .eql .i 10 (ki 2),jm 21 22] [2,3,21] (.cond 21 (js [jf 23 0 2,jk 24 23,jf 25 4 3,jf 26 0 25,jk 27 26,ja 28 6 24 27,jf 29 1 28,jk 30 29,jm 4 30] [4] .ret) .skip)))))) (js [jf 31 3 3,jk 32 31,jm 4 32] [4] .ret)))
def rv12:List RV:=[.t 4]
def dF (g:G) (t:TE) (a0:Network) (a1:Scan):Option ByteArray:=
 cl (dk g t a0 (Scan.mk a1.Thing a1.At a1.Kind a1.Place (Trip.mk a1.Trip.Leg a1.Trip.Day))) fun x1=>
 br x1
 (
  br (g.eq a1.Kind 3)
  (
   gd (((0:Int)≤a1.Trip.Leg))<|
   gt a0.Legs (g.nat a1.Trip.Leg) fun x2=>
   some x2.From)
  (
   br (g.eq a1.Kind 2)
   (
    gd (((0:Int)≤a1.Trip.Leg))<|
    gt a0.Legs (g.nat a1.Trip.Leg) fun x3=>
    some x3.To)
   (
    some a1.Place)))
 (
  some str_k0)
theorem eY {g:G} {t:TE} {a0:Network} {a1:Scan} {r:ByteArray} (hg:g=G.real) (ht:t=TE.real) (h:dF g t a0 a1=some r):Fn Tryz.prog 12 [.g (Network.rs t a0),.g (Scan.rs t a1)] (.c (.r (.v (.string r)))):=by
 obtain⟨X,hX⟩:=au (.c (.r (.v (.string r))):X);rw[←hX];refine aq (rvs:=rv12) (j:=(ir12 str_k0)) Tryz.func12 rfl (by kernel_rfl) (nb rfl) (by kernel_rfl) ac ?_;intro g2 F hg2 hF;obtain rfl:g2=g:=hg2.unique.trans hg.symm;clear hg2;obtain⟨_,_,_,eq⟩:=g2;obtain⟨_⟩:=t;obtain⟨a0_Legs,a0_Off,a0_Change⟩:=a0
 obtain⟨a1_Thing,a1_At,a1_Kind,a1_Place,⟨a1_Trip_Leg,a1_Trip_Day⟩⟩:=a1;unfold dF at h;try dsimp only at h
 obtain⟨s_k0,hs_k0⟩:∃s,str_k0=s:=⟨_,rfl⟩;try rw[hs_k0] at h
 rw[hs_k0];cbv;obtain⟨x1,hx1,h⟩:=ae h;try dsimp only at h
 refine ACall.mk _ _ rfl (hF _ _ _ (d8 hg ht hx1)) (.inl rfl) (nb rfl) ?_;cbv
 cases hb1:x1
 ·rw[aa hb1] at h;cbv;obtain rfl:=Option.some.inj h;exact ARet.mk trivial hX.symm
 rw[ab hb1] at h;cbv
 cases hb2:(eq a1_Kind 3)
 rotate_left
 ·rw[ab hb2] at h;cbv;obtain⟨hc1,h⟩:=ai h;refine AStep.mk hc1 ?_;cbv;obtain⟨x2,hx2,h⟩:=aP h;obtain⟨x2_From,x2_To,x2_Start,x2_Takes,x2_Days,x2_Room⟩:=x2;try dsimp only at h
  refine AGet.mk _ (bw hg ht hx2) ?_;cbv;obtain rfl:=Option.some.inj h;exact ARet.mk trivial hX.symm
 rw[aa hb2] at h;cbv
 cases hb3:(eq a1_Kind 2)
 ·rw[aa hb3] at h;cbv;obtain rfl:=Option.some.inj h;exact ARet.mk trivial hX.symm
 rw[ab hb3] at h;cbv;obtain⟨hc2,h⟩:=ai h;refine AStep.mk hc2 ?_;cbv;obtain⟨x3,hx3,h⟩:=aP h;obtain⟨x3_From,x3_To,x3_Start,x3_Takes,x3_Days,x3_Room⟩:=x3;try dsimp only at h
 refine AGet.mk _ (bw hg ht hx3) ?_;cbv;obtain rfl:=Option.some.inj h;exact ARet.mk trivial hX.symm
def ir13:J:=js [jq 2 (.box 0),jq 3 (.box 1),jq 4 (.alloc [.r (.v (.string .empty)),.r (.v (.int .i64 0))])] [2,3,4] (.seq (js [jl 5 3 2,jl 6 6 3,jc 7 10 [5,6],jq 8 (.not 7)] [2,3,4,8] (.cond 8 (js [jq 9 (.bld [.r (.v (.string .empty)),.r (.v (.int .i64 0))] []),jp (.st 2 4 9)] [4] .ret) .skip)) (.seq (js [jf 10 2 3,jk 11 10,jb 12 .eql .i 11 (ki 3)] [2,3,4,12] (.cond 12 (.seq (.reg (some [[],[0],[],[2],[2,3],[0,1,2,3,4],[0,1,2,3,4,5],[0,1,2,3,4,5,6],[],[],[9],[8,9,10],[0,1,2,3,4,5,6,7,8,9,10,11],[0,1,2,3,4,5,6,7,8,9,10,11,12]]) [jf 13 0 2,jk 14 13,jf 15 4 3,jf 16 0 15,jk 17 16,ja 18 6 14 17,jf 19 1 18,jk 20 19,jl 21 3 2,jf 22 4 3,jl 23 2 22,jc 24 39 [21,23],jq 25 (.bld [.r (.v (.string .empty)),.r (.v (.int .i64 0))] [(0,1,20),(1,1,24)]),jp (.st 2 4 25)] [4]) .ret) .skip)) (.seq (.reg (some [[],[],[0,1],[],[3],[0,1,2,3,4],[0,1,2,3,4,5]]) [jl 26 3 2,jl 27 6 3,jc 28 12 [26,27],jf 29 1 3,jk 30 29,jq 31 (.bld [.r (.v (.string .empty)),.r (.v (.int .i64 0))] [(0,1,28),(1,1,30)]),jp (.st 2 4 31)] [4]) .ret)))
def rv13:List RV:=[.c 4 true 2]
def dC (g:G) (t:TE) (a0:Network) (a1:Scan):Option Spot:=
 cl (dk g t a0 (Scan.mk a1.Thing a1.At a1.Kind a1.Place (Trip.mk a1.Trip.Leg a1.Trip.Day))) fun x1=>
 br x1
 (
  br (g.eq a1.Kind 3)
  (
   gd (((0:Int)≤a1.Trip.Leg))<|
   gt a0.Legs (g.nat a1.Trip.Leg) fun x2=>
   cl (lS g t a0 (Trip.mk a1.Trip.Leg a1.Trip.Day)) fun x3=>
   some (Spot.mk x2.To x3))
  (
   cl (dF g t a0 (Scan.mk a1.Thing a1.At a1.Kind a1.Place (Trip.mk a1.Trip.Leg a1.Trip.Day))) fun x4=>
   some (Spot.mk x4 a1.At)))
 (
  some (Spot.mk ByteArray.empty 0))
theorem iB {g:G} {t:TE} {a0:Network} {a1:Scan} {r:Spot} (hg:g=G.real) (ht:t=TE.real) (h:dC g t a0 a1=some r):Fn Tryz.prog 13 [.g (Network.rs t a0),.g (Scan.rs t a1)] (.g (Spot.ds t r)):=by
 obtain⟨X,hX⟩:=au (.g (Spot.ds t r):X);rw[←hX];refine aq (rvs:=rv13) (j:=ir13) Tryz.func13 rfl (by kernel_rfl) (nb rfl) (by kernel_rfl) ac ?_;intro g2 F hg2 hF;obtain rfl:g2=g:=hg2.unique.trans hg.symm;clear hg2;obtain⟨_,_,_,eq⟩:=g2;obtain⟨_⟩:=t;obtain⟨a0_Legs,a0_Off,a0_Change⟩:=a0
 obtain⟨a1_Thing,a1_At,a1_Kind,a1_Place,⟨a1_Trip_Leg,a1_Trip_Day⟩⟩:=a1;unfold dC at h;try dsimp only at h
 cbv;obtain⟨x1,hx1,h⟩:=ae h;try dsimp only at h
 refine ACall.mk _ _ rfl (hF _ _ _ (d8 hg ht hx1)) (.inl rfl) (nb rfl) ?_;cbv
 cases hb1:x1
 ·rw[aa hb1] at h;cbv;obtain rfl:=Option.some.inj h;exact ARet.mk trivial hX.symm
 rw[ab hb1] at h;cbv
 cases hb2:(eq a1_Kind 3)
 ·rw[aa hb2] at h;cbv;obtain⟨x4,hx4,h⟩:=ae h;try dsimp only at h
  refine ACall.mk _ _ rfl (hF _ _ _ (eY hg ht hx4)) (.inl rfl) (nb rfl) ?_;cbv;obtain rfl:=Option.some.inj h;exact ARet.mk trivial hX.symm
 rw[ab hb2] at h;cbv;obtain⟨hc1,h⟩:=ai h;refine AStep.mk hc1 ?_;cbv;obtain⟨x2,hx2,h⟩:=aP h;obtain⟨x2_From,x2_To,x2_Start,x2_Takes,x2_Days,x2_Room⟩:=x2;try dsimp only at h
 refine AGet.mk _ (bw hg ht hx2) ?_;cbv;obtain⟨x3,hx3,h⟩:=ae h;try dsimp only at h
 refine ACall.mk _ _ rfl (hF _ _ _ (rp hg ht hx3)) (.inl rfl) (nb rfl) ?_;cbv;obtain rfl:=Option.some.inj h;exact ARet.mk trivial hX.symm
def ir14:J:=js [jq 2 (.box 0),jq 3 (.box 1),jq 4 (.alloc [.r (.v (.string .empty)),.r (.v (.int .i64 0))])] [2,3,4] (.seq (js [jl 5 3 2,jl 6 6 3,jc 7 10 [5,6],jq 8 (.not 7)] [2,3,4,8] (.cond 8 (js [jq 9 (.bld [.r (.v (.string .empty)),.r (.v (.int .i64 0))] []),jp (.st 2 4 9)] [4] .ret) .skip)) (.seq (js [jf 10 2 3,jk 11 10,jb 12 .eql .i 11 (ki 3),jm 13 12,jv 14 13 (.fa 2 3),jv 15 13 (.ld false 1 14),jv 16 13 (.bin .eql .i 15 (ki 2)),jq 17 (.pick 13 kt 16)] [2,3,4,17] (.cond 17 (.seq (.reg (some [[],[0],[],[2],[2,3],[0,1,2,3,4],[0,1,2,3,4,5],[0,1,2,3,4,5,6],[],[],[9],[8,9,10],[0,1,2,3,4,5,6,7,8,9,10,11],[0,1,2,3,4,5,6,7,8,9,10,11,12]]) [jf 18 0 2,jk 19 18,jf 20 4 3,jf 21 0 20,jk 22 21,ja 23 6 19 22,jf 24 0 23,jk 25 24,jl 26 3 2,jf 27 4 3,jl 28 2 27,jc 29 38 [26,28],jq 30 (.bld [.r (.v (.string .empty)),.r (.v (.int .i64 0))] [(0,1,25),(1,1,29)]),jp (.st 2 4 30)] [4]) .ret) .skip)) (js [jf 31 3 3,jk 32 31,jf 33 1 3,jk 34 33,jq 35 (.bld [.r (.v (.string .empty)),.r (.v (.int .i64 0))] [(0,1,32),(1,1,34)]),jp (.st 2 4 35)] [4] .ret)))
def rv14:List RV:=[.c 4 true 2]
def dG (g:G) (t:TE) (a0:Network) (a1:Scan):Option Spot:=
 cl (dk g t a0 (Scan.mk a1.Thing a1.At a1.Kind a1.Place (Trip.mk a1.Trip.Leg a1.Trip.Day))) fun x1=>
 br x1
 (
  br (g.eq a1.Kind 3)
  (
   gd (((0:Int)≤a1.Trip.Leg))<|
   gt a0.Legs (g.nat a1.Trip.Leg) fun x2=>
   cl (eW g t a0 (Trip.mk a1.Trip.Leg a1.Trip.Day)) fun x3=>
   some (Spot.mk x2.From x3))
  (
   br (g.eq a1.Kind 2)
   (
    gd (((0:Int)≤a1.Trip.Leg))<|
    gt a0.Legs (g.nat a1.Trip.Leg) fun x4=>
    cl (eW g t a0 (Trip.mk a1.Trip.Leg a1.Trip.Day)) fun x5=>
    some (Spot.mk x4.From x5))
   (
    some (Spot.mk a1.Place a1.At))))
 (
  some (Spot.mk ByteArray.empty 0))
theorem iT {g:G} {t:TE} {a0:Network} {a1:Scan} {r:Spot} (hg:g=G.real) (ht:t=TE.real) (h:dG g t a0 a1=some r):Fn Tryz.prog 14 [.g (Network.rs t a0),.g (Scan.rs t a1)] (.g (Spot.ds t r)):=by
 obtain⟨X,hX⟩:=au (.g (Spot.ds t r):X);rw[←hX];refine aq (rvs:=rv14) (j:=ir14) Tryz.func14 rfl (by kernel_rfl) (nb rfl) (by kernel_rfl) ac ?_;intro g2 F hg2 hF;obtain rfl:g2=g:=hg2.unique.trans hg.symm;clear hg2;obtain⟨_,_,_,eq⟩:=g2;obtain⟨_⟩:=t;obtain⟨a0_Legs,a0_Off,a0_Change⟩:=a0
 obtain⟨a1_Thing,a1_At,a1_Kind,a1_Place,⟨a1_Trip_Leg,a1_Trip_Day⟩⟩:=a1;unfold dG at h;try dsimp only at h
 cbv;obtain⟨x1,hx1,h⟩:=ae h;try dsimp only at h
 refine ACall.mk _ _ rfl (hF _ _ _ (d8 hg ht hx1)) (.inl rfl) (nb rfl) ?_;cbv
 cases hb1:x1
 ·rw[aa hb1] at h;cbv;obtain rfl:=Option.some.inj h;exact ARet.mk trivial hX.symm
 rw[ab hb1] at h;cbv
 cases hb2:(eq a1_Kind 3)
 rotate_left
 ·rw[ab hb2] at h;cbv;iterate 3 try(rw[hb2];cbv)
  obtain⟨hc1,h⟩:=ai h;refine AStep.mk hc1 ?_;cbv;obtain⟨x2,hx2,h⟩:=aP h;obtain⟨x2_From,x2_To,x2_Start,x2_Takes,x2_Days,x2_Room⟩:=x2;try dsimp only at h
  refine AGet.mk _ (bw hg ht hx2) ?_;cbv;obtain⟨x3,hx3,h⟩:=ae h;try dsimp only at h
  refine ACall.mk _ _ rfl (hF _ _ _ (hN hg ht hx3)) (.inl rfl) (nb rfl) ?_;cbv;obtain rfl:=Option.some.inj h;exact ARet.mk trivial hX.symm
 rw[aa hb2] at h;cbv;iterate 3 try(rw[hb2];cbv)
 cases hb3:(eq a1_Kind 2)
 ·rw[aa hb3] at h;cbv;obtain rfl:=Option.some.inj h;exact ARet.mk trivial hX.symm
 rw[ab hb3] at h;cbv;obtain⟨hc2,h⟩:=ai h;refine AStep.mk hc2 ?_;cbv;obtain⟨x4,hx4,h⟩:=aP h;obtain⟨x4_From,x4_To,x4_Start,x4_Takes,x4_Days,x4_Room⟩:=x4;try dsimp only at h
 refine AGet.mk _ (bw hg ht hx4) ?_;cbv;obtain⟨x5,hx5,h⟩:=ae h;try dsimp only at h
 refine ACall.mk _ _ rfl (hF _ _ _ (hN hg ht hx5)) (.inl rfl) (nb rfl) ?_;cbv;obtain rfl:=Option.some.inj h;exact ARet.mk trivial hX.symm
end Go.Vs
