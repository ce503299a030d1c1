/- Part of the proofs of this seat's laws: Lac. No condition. -/
import Derived.Test.YtdgkokanccedkaaGreatDoorTy
import Derived.Test.YtdgkokanccedkaaGreatDoorTIRall
import Derived.Test.YtdgkokanccedkaaGreatDoorLab
import Derived.Test.YtdgkokanccedkaaGreatDoorLaa
set_option linter.unusedVariables false
set_option linter.unusedSimpArgs false
set_option linter.unusedSectionVars false
namespace Go.Vs
set_option maxRecDepth 100000
def ir6:J:=js [jm 2 kf] [0] (js [jm 3 0,jq 4 (.len false 3),jb 5 .gtr .i 4 (ki 4096),jm 2 5] [2] .ret)
def rv6:List RV:=[.t 2]
open Go.Proofs Go.IntWalk
set_option linter.unusedVariables false
set_option maxHeartbeats 4000000
def qj (g:G) (t:TE) (a0:List Int):Bool:=
 (g.lt 4096 (g.llen (t.r_U8 a0)))
theorem zB {g:G} {t:TE} {a0:List Int} {r:Bool} (hg:g=G.real) (ht:t=TE.real) (h:qj g t a0=r):Fn Tryz.prog 6 [.c (.s 1 (t.r_U8 a0))] (.c (.r (.v (.bool r)))):=by
 obtain⟨X,hX⟩:=au (.c (.r (.v (.bool r))):X);rw[←hX];refine aq (rvs:=rv6) (j:=ir6) Tryz.func6 rfl (by kernel_rfl) (nb rfl) (by kernel_rfl) ac ?_;intro g2 F hg2 hF;obtain rfl:g2=g:=hg2.unique.trans hg.symm;clear hg2;obtain⟨_⟩:=g2;obtain⟨_⟩:=t;unfold qj at h;try dsimp only at h
 cbv;subst h;exact ARet.mk trivial hX.symm
def ir60:J:=js [jq 2 (.mv (.k (.c .un)))] [0] (js [jm 5 0,jq 6 (.len false 5),jb 7 .mul .i (ki 3) 6,jb 8 .add .i (ki 744201) 7,jm 3 8] [0,3] (.seq (js [jm 4 (ki 0)] [0,3,4] (.bl 0 (.seq (js [jm 9 4,jm 10 0,jq 11 (.len false 10),jb 12 .lss .i 9 11,jm 13 12,ju 14 13 (.mv 4),ju 15 13 (.bin .lss .i 14 (ki 4000)),jq 16 (.pick 13 15 kf)] [0,3,4,16] (.cond 16 .skip (.exit 0))) (.seq (.block 1 (.reg none [jm 19 3,jb 20 .mul .i 19 (ki 167),jm 21 0,jm 22 4,ja 23 1 21 22,jk 24 23,jq 25 (.cvt .i64 24),jb 26 .add .i 20 25,jb 27 .add .i 26 (ki 29),jb 28 .and .i 27 (ki 1073741823),jm 3 28] [0,3,4])) (.reg none [jm 17 4,jb 18 .add .i 17 (ki 1),jm 4 18] [0,3,4]))))) (js [jm 29 0,jm 30 3,jq 31 (.bld [.n 1,.r (.v (.int .i64 0)),.r (.v (.int .i64 0))] [(0,1,29),(2,1,30)]),jq 32 (.box 31),jm 2 32] [2] .ret)))
def rv60:List RV:=[.t 2]
def gb (g:G) (t:TE):List Int→Int→Int→Int
 |[],v2,v1=>
  v1
 |z1::ls1,v2,v1=>
  br (g.lt v2 4000)
  (
   gb g t ls1 (g.wrap .i64 (g.add v2 1)) (g.band .i64 (g.wrap .i64 (g.add (g.wrap .i64 (g.add (g.wrap .i64 (g.mul v1 167)) (g.wrap .i64 z1))) 29)) 1073741823))
  (
   v1)
def mR (g:G) (t:TE) (a0:List Int):Cur:=
 lP (gb g t a0 0 (g.wrap .i64 (g.add 744201 (g.wrap .i64 (g.mul 3 (g.llen (t.r_U8 a0))))))) fun y1=>
 (Cur.mk a0 0 y1)
theorem vS {g:G} {t:TE} {a0:List Int} {r:Cur} (hg:g=G.real) (ht:t=TE.real) (h:mR g t a0=r):Fn Tryz.prog 60 [.c (.s 1 (t.r_U8 a0))] (.p (Cur.ds t r)):=by
 obtain⟨X,hX⟩:=au (.p (Cur.ds t r):X);rw[←hX];refine aq (rvs:=rv60) (j:=ir60) Tryz.func60 rfl (by kernel_rfl) (nb rfl) (by kernel_rfl) ac ?_;intro g2 F hg2 hF;obtain rfl:g2=g:=hg2.unique.trans hg.symm;clear hg2;obtain⟨wrap,lt,_,_,_,_,band,_,_,_,_,_,_,add,_,mul,_,_,_,_,_,llen⟩:=g2;obtain⟨r_U8⟩:=t;unfold mR at h;try dsimp only at h
 cbv;obtain⟨o1,ho1,h⟩:=aj h;try dsimp only at h
 try rw[hg] at ho1
 try rw[ht] at ho1
 refine ABL.mk {p:Nat×Int×Int//p.1≤a0.length∧p.2.1=((p.1:Nat):Int)∧gb G.real TE.real (List.drop p.1 a0) p.2.1 p.2.2=o1} (fun⟨⟨k1,v2,v1⟩,_⟩=>({sl:=[(0,.c (.r (.s 1 (r_U8 a0)))),(3,.c (.r (.v (.int .i64 v1)))),(4,.c (.r (.v (.int .i64 v2))))],tab:=[]}:St)) 0 (fun p=>a0.length-p.1.1) ⟨(0,0,(wrap .i64 (add 744201 (wrap .i64 (mul 3 (llen (r_U8 a0))))))),Nat.zero_le _,rfl,ho1⟩ (Int) (fun y1=>({sl:=[(0,.c (.r (.s 1 (r_U8 a0)))),(3,.c (.r (.v (.int .i64 y1))))],tab:=[]}:St)) 0 (fun y=>o1=y) ?_ ?_ ?_
 ·refine Wk.of [] rfl rfl ?_ ?_
  ·cbv;all_goals exact⟨⟨_,rfl,rfl⟩,⟨_,rfl,rfl⟩,⟨_,rfl,rfl⟩,trivial⟩
  cbv;all_goals exact trivial
 ·rintro⟨⟨k1,v2,v1⟩,hk1,hi1,h_1⟩ hq1;have hm1:=(hq1.1 0 _ _ rfl);try dsimp only at hk1 hi1 h_1
  clear hq1;cbv
  by_cases hc1_:k1<a0.length
  ·have hb1:lt v2 (llen (r_U8 a0))=true:=su hg ht hi1 hc1_;have hs1:=xz hg ht hi1 hc1_ hm1;obtain⟨z1,hz1⟩:=a8 hc1_;rw[aN hz1] at h_1;rw[gb] at h_1;try rw[←hg] at h_1
   try rw[←ht] at h_1
   try dsimp only at h_1
   rw[hb1];cbv;iterate 2 try(rw[hb1];cbv)
   cases hb2:(lt v2 4000)
   ·rw[aa hb2] at h_1;cbv;refine⟨v1,Wk.of [] rfl rfl ?_ ?_,h_1.symm⟩
    ·cbv;all_goals exact⟨⟨_,rfl,rfl⟩,⟨_,rfl,rfl⟩,trivial⟩
    cbv;all_goals exact trivial
   rw[ab hb2] at h_1;cbv;refine AStep.mk (ic hi1) ?_;cbv;refine AGet.mk _ (vH hg ht hi1 hz1) ?_;cbv;try rw[hg] at h_1
   try rw[ht] at h_1
   refine⟨⟨(k1+1,(wrap .i64 (add v2 1)),(band .i64 (wrap .i64 (add (wrap .i64 (add (wrap .i64 (mul v1 167)) (wrap .i64 z1))) 29)) 1073741823)),hc1_,hs1,h_1⟩,Wk.of [] rfl rfl ?_ ?_,db hc1_⟩
   ·cbv;all_goals exact⟨⟨_,rfl,rfl⟩,⟨_,rfl,rfl⟩,⟨_,rfl,rfl⟩,trivial⟩
   cbv;all_goals exact trivial
  have hb1:lt v2 (llen (r_U8 a0))=false:=qA hg ht hi1 hc1_;rw[List.drop_of_length_le (Nat.le_of_not_lt hc1_)] at h_1;rw[gb] at h_1;try rw[←hg] at h_1
  try rw[←ht] at h_1
  try dsimp only at h_1
  rw[hb1];cbv;iterate 2 try(rw[hb1];cbv)
  refine⟨v1,Wk.of [] rfl rfl ?_ ?_,h_1.symm⟩
  ·cbv;all_goals exact⟨⟨_,rfl,rfl⟩,⟨_,rfl,rfl⟩,trivial⟩
  cbv;all_goals exact trivial
 rintro y1 hy1;replace hy1:=hy1.symm;subst hy1;try dsimp only[lr,lrL,lrp,bu] at h
 cbv;subst h;exact ARet.mk trivial hX.symm
def Bm:J:=js [jm 2 (ki 0)] [0] (js [jm 4 0,jm 5 0,jq 6 (.nilc 5),jf 7 2 6,jk 8 7,jb 9 .mul .i 8 (ki 6364136223846793005),jb 10 .add .i 9 (ki 1442695040888963407),jq 11 (.nilc 4),jf 12 2 11,jp (.st 1 12 10)] [0] (.seq (.reg (some [[],[0],[0,1],[0,1,2],[0,1,2,3],[],[5],[5,6],[5,6,7],[5,6,7,8],[0,1,2,3,4,5,6,7,8,9],[0,1,2,3,4,5,6,7,8,9,10],[0,1,2,3,4,5,6,7,8,9,10,11]]) [jm 13 0,jq 14 (.nilc 13),jf 15 2 14,jk 16 15,jq 17 (.bin .shr .i 16 (.k (.c (.r (.v (.int .u64 35)))))),jm 18 0,jq 19 (.nilc 18),jf 20 2 19,jk 21 20,jq 22 (.bin .shr .i 21 (.k (.c (.r (.v (.int .u64 45)))))),jb 23 .xor .i 17 22,jb 24 .and .i 23 (ki 255),jm 3 24] [0,3]) (.seq (.seq (.reg (some [[],[0],[0,1],[0,1,2],[],[4],[4,5],[4,5,6],[4,5,6,7],[0,1,2,3,4,5,6,7,8]]) [jm 25 0,jq 26 (.nilc 25),jf 27 1 26,jk 28 27,jm 29 0,jq 30 (.nilc 29),jf 31 0 30,jk 32 31,jq 33 (.len false 32),jb 34 .lss .i 28 33] [0,3,34]) (.cond 34 (.seq (.reg (some [[],[],[1],[1,2],[1,2,3],[],[5],[5,6],[5,6,7],[1,2,3,4,5,6,7,8],[1,2,3,4,5,6,7,8,9],[1,2,3,4,5,6,7,8,9,10],[0,1,2,3,4,5,6,7,8,9,10,11],[0,1,2,3,4,5,6,7,8,9,10,11,12],[0,1,2,3,4,5,6,7,8,9,10,11,12,13]]) [jm 35 3,jm 36 0,jq 37 (.nilc 36),jf 38 0 37,jk 39 38,jm 40 0,jq 41 (.nilc 40),jf 42 1 41,jk 43 42,ja 44 1 39 43,jk 45 44,jq 46 (.cvt .i64 45),jb 47 .add .i 35 46,jb 48 .and .i 47 (ki 255),jm 3 48] [0,3]) (.reg none [jm 49 0,jm 50 0,jq 51 (.nilc 50),jf 52 1 51,jk 53 52,jb 54 .add .i 53 (ki 1),jq 55 (.nilc 49),jf 56 1 55,jp (.st 1 56 54)] [3])) .skip)) (js [jm 57 3,jm 2 57] [2] .ret))))
def By:List RV:=[.t 2]
def fh (g:G) (t:TE) (a0:Cur):Option (Int×Cur):=
 br (g.lt a0.i (g.llen (t.r_U8 a0.b)))
 (
  gd (((0:Int)≤a0.i))<|
  gt a0.b (g.nat a0.i) fun x1=>
  some (((g.band .i64 (g.wrap .i64 (g.add (g.band .i64 (g.bxor .i64 (g.shr .i64 (g.wrap .i64 (g.add (g.wrap .i64 (g.mul a0.h 6364136223846793005)) 1442695040888963407)) 35) (g.shr .i64 (g.wrap .i64 (g.add (g.wrap .i64 (g.mul a0.h 6364136223846793005)) 1442695040888963407)) 45)) 255) (g.wrap .i64 x1))) 255),(Cur.mk a0.b (g.wrap .i64 (g.add a0.i 1)) (g.wrap .i64 (g.add (g.wrap .i64 (g.mul a0.h 6364136223846793005)) 1442695040888963407))))))
 (
  some (((g.band .i64 (g.bxor .i64 (g.shr .i64 (g.wrap .i64 (g.add (g.wrap .i64 (g.mul a0.h 6364136223846793005)) 1442695040888963407)) 35) (g.shr .i64 (g.wrap .i64 (g.add (g.wrap .i64 (g.mul a0.h 6364136223846793005)) 1442695040888963407)) 45)) 255),(Cur.mk a0.b a0.i (g.wrap .i64 (g.add (g.wrap .i64 (g.mul a0.h 6364136223846793005)) 1442695040888963407))))))
theorem g8 {g:G} {t:TE} {a0:Cur} {r:Int×Cur} (hg:g=G.real) (ht:t=TE.real) (h:fh g t a0=some r):FnM Tryz.prog 107 (.p (Cur.ds t a0)) [] (.c (.r (.v (.int .i64 r.1)))) (.p (Cur.ds t r.2)):=by
 obtain⟨X,hX⟩:=au (.c (.r (.v (.int .i64 r.1))):X);obtain⟨Y,hY⟩:=au (.p (Cur.ds t r.2):AM);rw[←hX,←hY];refine dY (rvs:=By) (j:=Bm) Tryz.func107 rfl (by kernel_rfl) (nb rfl) (by kernel_rfl) ac ?_;intro g2 F hg2 hF;obtain rfl:g2=g:=hg2.unique.trans hg.symm;clear hg2;obtain⟨_,lt,_,_,_,_,_,_,_,_,_,_,_,_,_,_,_,_,_,_,_,llen⟩:=g2;obtain⟨r_U8⟩:=t
 obtain⟨a0_b,a0_i,a0_h⟩:=a0;unfold fh at h;try dsimp only at h
 cbv;refine AStep.mk (by decide) ?_;cbv;refine AStep.mk (by decide) ?_;cbv
 cases hb1:(lt a0_i (llen (r_U8 a0_b)))
 ·rw[aa hb1] at h;cbv;obtain rfl:=Option.some.inj h;exact ARetM.mk trivial hX.symm hY.symm
 rw[ab hb1] at h;cbv;obtain⟨hc1,h⟩:=ai h;refine AStep.mk hc1 ?_;cbv;obtain⟨x1,hx1,h⟩:=aP h;try dsimp only at h
 refine AGet.mk _ (rP hg ht hx1) ?_;cbv;obtain rfl:=Option.some.inj h;exact ARetM.mk trivial hX.symm hY.symm
def ir83:J:=js [jm 4 (ki 0)] [0,1] (.seq (js [jm 8 1,jb 9 .leq .i 8 (ki 0)] [0,1,9] (.cond 9 (js [jm 4 (ki 0)] [4] .ret) .skip)) (.seq (js [jm 10 1,jb 11 .leq .i 10 (ki 256)] [0,1,11] (.cond 11 (js [jm 12 0,jq 13 (.callm 107 true 12 []),jm 14 1,jb 15 .rem .i 13 14,jm 4 15] [4] .ret) .skip)) (js [jm 16 0,jq 17 (.callm 107 true 16 []),jm 5 17] [0,1,5] (js [jm 18 0,jq 19 (.callm 107 true 18 []),jm 6 19] [0,1,5,6] (js [jm 20 0,jq 21 (.callm 107 true 20 []),jm 7 21] [1,5,6,7] (js [jm 22 5,jb 23 .mul .i 22 (ki 65536),jm 24 6,jb 25 .mul .i 24 (ki 256),jb 26 .add .i 23 25,jm 27 7,jb 28 .add .i 26 27,jm 29 1,jb 30 .rem .i 28 29,jm 4 30] [4] .ret))))))
def rv83:List RV:=[.t 4]
def aF (g:G) (t:TE) (a0:Cur) (a1:Int):Option (Int×Cur):=
 br (g.le a1 0)
 (
  some ((0,a0)))
 (
  br (g.le a1 256)
  (
   cl (fh g t a0) fun x1=>
   gd ((a1≠0))<|
   some (((g.rem x1.1 a1),(Cur.mk x1.2.b x1.2.i x1.2.h))))
  (
   cl (fh g t a0) fun x2=>
   cl (fh g t (Cur.mk x2.2.b x2.2.i x2.2.h)) fun x3=>
   cl (fh g t (Cur.mk x3.2.b x3.2.i x3.2.h)) fun x4=>
   gd ((a1≠0))<|
   some (((g.rem (g.wrap .i64 (g.add (g.wrap .i64 (g.add (g.wrap .i64 (g.mul x2.1 65536)) (g.wrap .i64 (g.mul x3.1 256)))) x4.1)) a1),(Cur.mk x4.2.b x4.2.i x4.2.h)))))
theorem aw {g:G} {t:TE} {a0:Cur} {a1:Int} {r:Int×Cur} (hg:g=G.real) (ht:t=TE.real) (h:aF g t a0 a1=some r):FnM Tryz.prog 83 (.p (Cur.ds t a0)) [.c (.v (.int .i64 a1))] (.c (.r (.v (.int .i64 r.1)))) (.p (Cur.ds t r.2)):=by
 obtain⟨X,hX⟩:=au (.c (.r (.v (.int .i64 r.1))):X);obtain⟨Y,hY⟩:=au (.p (Cur.ds t r.2):AM);rw[←hX,←hY];refine dY (rvs:=rv83) (j:=ir83) Tryz.func83 rfl (by kernel_rfl) (nb rfl) (by kernel_rfl) ac ?_;intro g2 F hg2 hF;obtain rfl:g2=g:=hg2.unique.trans hg.symm;clear hg2;obtain⟨_,_,le⟩:=g2;obtain⟨_⟩:=t
 obtain⟨a0_b,a0_i,a0_h⟩:=a0;unfold aF at h;try dsimp only at h
 cbv
 cases hb1:(le a1 0)
 rotate_left
 ·rw[ab hb1] at h;cbv;obtain rfl:=Option.some.inj h;exact ARetM.mk trivial hX.symm hY.symm
 rw[aa hb1] at h;cbv
 cases hb2:(le a1 256)
 rotate_left
 ·rw[ab hb2] at h;cbv;obtain⟨x1,hx1,h⟩:=ae h;obtain⟨x1_1,⟨x1_2_b,x1_2_i,x1_2_h⟩⟩:=x1;try dsimp only at h
  refine ACallM.mk _ _ _ _ rfl rfl (hF _ _ _ (g8 hg ht hx1)) rfl (nb rfl) (nb rfl) ?_;cbv;obtain⟨hc1,h⟩:=ai h;refine AStep.mk hc1 ?_;cbv;obtain rfl:=Option.some.inj h;exact ARetM.mk trivial hX.symm hY.symm
 rw[aa hb2] at h;cbv;obtain⟨x2,hx2,h⟩:=ae h;obtain⟨x2_1,⟨x2_2_b,x2_2_i,x2_2_h⟩⟩:=x2;try dsimp only at h
 refine ACallM.mk _ _ _ _ rfl rfl (hF _ _ _ (g8 hg ht hx2)) rfl (nb rfl) (nb rfl) ?_;cbv;obtain⟨x3,hx3,h⟩:=ae h;obtain⟨x3_1,⟨x3_2_b,x3_2_i,x3_2_h⟩⟩:=x3;try dsimp only at h
 refine ACallM.mk _ _ _ _ rfl rfl (hF _ _ _ (g8 hg ht hx3)) rfl (nb rfl) (nb rfl) ?_;cbv;obtain⟨x4,hx4,h⟩:=ae h;obtain⟨x4_1,⟨x4_2_b,x4_2_i,x4_2_h⟩⟩:=x4;try dsimp only at h
 refine ACallM.mk _ _ _ _ rfl rfl (hF _ _ _ (g8 hg ht hx4)) rfl (nb rfl) (nb rfl) ?_;cbv;obtain⟨hc2,h⟩:=ai h;refine AStep.mk hc2 ?_;cbv;obtain rfl:=Option.some.inj h;exact ARetM.mk trivial hX.symm hY.symm
def ir79:J:=js [jm 4 kf] [0,1] (js [jm 5 0,jm 6 1,jq 7 (.callm 83 true 5 [6]),jb 8 .eql .i 7 (ki 0),jm 4 8] [4] .ret)
def rv79:List RV:=[.t 4]
def cZ (g:G) (t:TE) (a0:Cur) (a1:Int):Option (Bool×Cur):=
 cl (aF g t a0 a1) fun x1=>
 some (((g.eq x1.1 0),(Cur.mk x1.2.b x1.2.i x1.2.h)))
theorem di {g:G} {t:TE} {a0:Cur} {a1:Int} {r:Bool×Cur} (hg:g=G.real) (ht:t=TE.real) (h:cZ g t a0 a1=some r):FnM Tryz.prog 79 (.p (Cur.ds t a0)) [.c (.v (.int .i64 a1))] (.c (.r (.v (.bool r.1)))) (.p (Cur.ds t r.2)):=by
 obtain⟨X,hX⟩:=au (.c (.r (.v (.bool r.1))):X);obtain⟨Y,hY⟩:=au (.p (Cur.ds t r.2):AM);rw[←hX,←hY];refine dY (rvs:=rv79) (j:=ir79) Tryz.func79 rfl (by kernel_rfl) (nb rfl) (by kernel_rfl) ac ?_;intro g2 F hg2 hF;obtain rfl:g2=g:=hg2.unique.trans hg.symm;clear hg2;obtain⟨_⟩:=g2;obtain⟨_⟩:=t
 obtain⟨a0_b,a0_i,a0_h⟩:=a0;unfold cZ at h;try dsimp only at h
 cbv;obtain⟨x1,hx1,h⟩:=ae h;obtain⟨x1_1,⟨x1_2_b,x1_2_i,x1_2_h⟩⟩:=x1;try dsimp only at h
 refine ACallM.mk _ _ _ _ rfl rfl (hF _ _ _ (aw hg ht hx1)) rfl (nb rfl) (nb rfl) ?_;cbv;obtain rfl:=Option.some.inj h;exact ARetM.mk trivial hX.symm hY.symm
def ir84:J:=js [jm 4 (ki 0)] [0,1] (js [jm 5 1,jm 6 0,jm 7 1,jq 8 (.len false 7),jq 9 (.callm 83 true 6 [8]),ja 10 1 5 9,jk 11 10,jm 4 11] [4] .ret)
def rv84:List RV:=[.t 4]
def bS (g:G) (t:TE) (a0:Cur) (a1:List Int):Option (Int×Cur):=
 cl (aF g t a0 (g.llen (t.r_I64 a1))) fun x1=>
 gd (((0:Int)≤x1.1))<|
 gt a1 (g.nat x1.1) fun x2=>
 some ((x2,(Cur.mk x1.2.b x1.2.i x1.2.h)))
theorem bH {g:G} {t:TE} {a0:Cur} {a1:List Int} {r:Int×Cur} (hg:g=G.real) (ht:t=TE.real) (h:bS g t a0 a1=some r):FnM Tryz.prog 84 (.p (Cur.ds t a0)) [.c (.s 1 (t.r_I64 a1))] (.c (.r (.v (.int .i64 r.1)))) (.p (Cur.ds t r.2)):=by
 obtain⟨X,hX⟩:=au (.c (.r (.v (.int .i64 r.1))):X);obtain⟨Y,hY⟩:=au (.p (Cur.ds t r.2):AM);rw[←hX,←hY];refine dY (rvs:=rv84) (j:=ir84) Tryz.func84 rfl (by kernel_rfl) (nb rfl) (by kernel_rfl) ac ?_;intro g2 F hg2 hF;obtain rfl:g2=g:=hg2.unique.trans hg.symm;clear hg2;obtain⟨_⟩:=g2;obtain⟨_⟩:=t
 obtain⟨a0_b,a0_i,a0_h⟩:=a0;unfold bS at h;try dsimp only at h
 cbv;obtain⟨x1,hx1,h⟩:=ae h;obtain⟨x1_1,⟨x1_2_b,x1_2_i,x1_2_h⟩⟩:=x1;try dsimp only at h
 refine ACallM.mk _ _ _ _ rfl rfl (hF _ _ _ (aw hg ht hx1)) rfl (nb rfl) (nb rfl) ?_;cbv;obtain⟨hc1,h⟩:=ai h;refine AStep.mk hc1 ?_;cbv;obtain⟨x2,hx2,h⟩:=aP h;try dsimp only at h
 refine AGet.mk _ (gI hg ht hx2) ?_;cbv;obtain rfl:=Option.some.inj h;exact ARetM.mk trivial hX.symm hY.symm
def ir86 (s_k0:ByteArray):J:=js [jq 4 (.mv (.k (.c (.r (.v (.string s_k0))))))] [0,1] (js [jm 5 1,jm 6 0,jm 7 1,jq 8 (.len false 7),jq 9 (.callm 83 true 6 [8]),ja 10 1 5 9,jk 11 10,jm 4 11] [4] .ret)
def rv86:List RV:=[.t 4]
def gZ (g:G) (t:TE) (a0:Cur) (a1:List ByteArray):Option (ByteArray×Cur):=
 cl (aF g t a0 (g.llen (t.r_S a1))) fun x1=>
 gd (((0:Int)≤x1.1))<|
 gt a1 (g.nat x1.1) fun x2=>
 some ((x2,(Cur.mk x1.2.b x1.2.i x1.2.h)))
theorem lJ {g:G} {t:TE} {a0:Cur} {a1:List ByteArray} {r:ByteArray×Cur} (hg:g=G.real) (ht:t=TE.real) (h:gZ g t a0 a1=some r):FnM Tryz.prog 86 (.p (Cur.ds t a0)) [.c (.s 1 (t.r_S a1))] (.c (.r (.v (.string r.1)))) (.p (Cur.ds t r.2)):=by
 obtain⟨X,hX⟩:=au (.c (.r (.v (.string r.1))):X);obtain⟨Y,hY⟩:=au (.p (Cur.ds t r.2):AM);rw[←hX,←hY];refine dY (rvs:=rv86) (j:=(ir86 str_k0)) Tryz.func86 rfl (by kernel_rfl) (nb rfl) (by kernel_rfl) ac ?_;intro g2 F hg2 hF;obtain rfl:g2=g:=hg2.unique.trans hg.symm;clear hg2;obtain⟨_⟩:=g2;obtain⟨_⟩:=t
 obtain⟨a0_b,a0_i,a0_h⟩:=a0;unfold gZ at h;try dsimp only at h
 obtain⟨s_k0,hs_k0⟩:∃s,str_k0=s:=⟨_,rfl⟩;try rw[hs_k0] at h
 rw[hs_k0];cbv;obtain⟨x1,hx1,h⟩:=ae h;obtain⟨x1_1,⟨x1_2_b,x1_2_i,x1_2_h⟩⟩:=x1;try dsimp only at h
 refine ACallM.mk _ _ _ _ rfl rfl (hF _ _ _ (aw hg ht hx1)) rfl (nb rfl) (nb rfl) ?_;cbv;obtain⟨hc1,h⟩:=ai h;refine AStep.mk hc1 ?_;cbv;obtain⟨x2,hx2,h⟩:=aP h;try dsimp only at h
 refine AGet.mk _ (ul hg ht hx2) ?_;cbv;obtain rfl:=Option.some.inj h;exact ARetM.mk trivial hX.symm hY.symm
def Bv (s_k0 s_k1 s_k2 s_k3 s_k4 s_k5 s_k6 s_k7:ByteArray):J:=js [jq 2 (.mv (.k (.c (.r (.v (.string s_k0))))))] [0] (js [jm 3 0,jq 4 (.bslr 1 [(.k (.c (.r (.v (.string s_k1))))),(.k (.c (.r (.v (.string s_k2))))),(.k (.c (.r (.v (.string s_k3))))),(.k (.c (.r (.v (.string s_k4))))),(.k (.c (.r (.v (.string s_k5))))),(.k (.c (.r (.v (.string s_k6))))),(.k (.c (.r (.v (.string s_k7)))))]),jq 5 (.callm 86 true 3 [4]),jm 2 5] [2] .ret)
def BU:List RV:=[.t 2]
def eM (g:G) (t:TE) (a0:Cur):Option (ByteArray×Cur):=
 lP ([gg,iJ,iA,i8,sV,tH,s9]) fun(l1:List ByteArray)=>
 cl (gZ g t a0 l1) fun x1=>
 some ((x1.1,(Cur.mk x1.2.b x1.2.i x1.2.h)))
theorem iR {g:G} {t:TE} {a0:Cur} {r:ByteArray×Cur} (hg:g=G.real) (ht:t=TE.real) (h:eM g t a0=some r):FnM Tryz.prog 125 (.p (Cur.ds t a0)) [] (.c (.r (.v (.string r.1)))) (.p (Cur.ds t r.2)):=by
 obtain⟨X,hX⟩:=au (.c (.r (.v (.string r.1))):X);obtain⟨Y,hY⟩:=au (.p (Cur.ds t r.2):AM);rw[←hX,←hY];refine dY (rvs:=BU) (j:=(Bv str_k0 gg iJ iA i8 sV tH s9)) Tryz.func125 rfl (by kernel_rfl) (nb rfl) (by kernel_rfl) ac ?_;intro g2 F hg2 hF;obtain rfl:g2=g:=hg2.unique.trans hg.symm;clear hg2;obtain⟨_⟩:=g2
 obtain⟨_,_,_,_,_,_,r_S⟩:=t;obtain⟨a0_b,a0_i,a0_h⟩:=a0;unfold eM at h;try dsimp only at h
 obtain⟨s_k0,hs_k0⟩:∃s,str_k0=s:=⟨_,rfl⟩;try rw[hs_k0] at h
 rw[hs_k0];obtain⟨s_k1,hs_k1⟩:∃s,gg=s:=⟨_,rfl⟩;try rw[hs_k1] at h
 rw[hs_k1];obtain⟨s_k2,hs_k2⟩:∃s,iJ=s:=⟨_,rfl⟩;try rw[hs_k2] at h
 rw[hs_k2];obtain⟨s_k3,hs_k3⟩:∃s,iA=s:=⟨_,rfl⟩;try rw[hs_k3] at h
 rw[hs_k3];obtain⟨s_k4,hs_k4⟩:∃s,i8=s:=⟨_,rfl⟩;try rw[hs_k4] at h
 rw[hs_k4];obtain⟨s_k5,hs_k5⟩:∃s,sV=s:=⟨_,rfl⟩;try rw[hs_k5] at h
 rw[hs_k5];obtain⟨s_k6,hs_k6⟩:∃s,tH=s:=⟨_,rfl⟩;try rw[hs_k6] at h
 rw[hs_k6];obtain⟨s_k7,hs_k7⟩:∃s,s9=s:=⟨_,rfl⟩;try rw[hs_k7] at h
 rw[hs_k7];cbv;obtain⟨l1,hl1,h⟩:=aj h;try dsimp only at h
 refine AVal.mk (r_S l1) (by rw[←hl1];exact s8 hg ht [s_k1,s_k2,s_k3,s_k4,s_k5,s_k6,s_k7]) ?_;cbv;obtain⟨x1,hx1,h⟩:=ae h;obtain⟨x1_1,⟨x1_2_b,x1_2_i,x1_2_h⟩⟩:=x1;try dsimp only at h
 refine ACallM.mk _ _ _ _ rfl rfl (hF _ _ _ (lJ hg ht hx1)) rfl (nb rfl) (nb rfl) ?_;cbv;obtain rfl:=Option.some.inj h;exact ARetM.mk trivial hX.symm hY.symm
def Bc (s_k1 s_k2 s_k3 s_k4:ByteArray):J:=js [jq 2 (.alloc [.r (.v (.string .empty)),.r (.v (.string .empty)),.r (.v (.int .i64 0)),.r (.v (.int .i64 0)),.r (.v (.int .i64 0)),.r (.v (.int .i64 0))])] [0,2] (js [jm 4 0,jq 5 (.callm 125 true 4 []),jm 6 0,jq 7 (.callm 125 true 6 []),jm 8 0,jq 9 (.callm 83 true 8 [(ki 48)]),jb 10 .mul .i (ki 30) 9,jm 11 0,jq 12 (.callm 83 true 11 [(ki 40)]),jb 13 .add .i (ki 1) 12,jb 14 .mul .i (ki 30) 13,jm 15 0,jq 16 (.callm 83 true 15 [(ki 127)]),jb 17 .add .i (ki 1) 16,jm 18 0,jq 19 (.callm 83 true 18 [(ki 60)]),jb 20 .mul .i (ki 1000) 19,jq 21 (.bld [.r (.v (.string .empty)),.r (.v (.string .empty)),.r (.v (.int .i64 0)),.r (.v (.int .i64 0)),.r (.v (.int .i64 0)),.r (.v (.int .i64 0))] [(0,1,5),(1,1,7),(2,1,10),(3,1,14),(4,1,17),(5,1,20)]),jq 3 (.alloc [.r (.v (.string .empty)),.r (.v (.string .empty)),.r (.v (.int .i64 0)),.r (.v (.int .i64 0)),.r (.v (.int .i64 0)),.r (.v (.int .i64 0))]),jp (.st 6 3 21)] [0,2,3] (.seq (.bl 0 (.seq (js [jf 22 0 3,jk 23 22,jf 24 1 3,jk 25 24,jb 26 .eql .s 23 25] [0,2,3,26] (.cond 26 .skip (.exit 0))) (.block 1 (js [jm 27 0,jq 28 (.bslr 1 [(.k (.c (.r (.v (.string s_k1))))),(.k (.c (.r (.v (.string s_k2))))),(.k (.c (.r (.v (.string s_k3)))))]),jq 29 (.callm 86 true 27 [28]),jf 30 1 3,jp (.st 1 30 29)] [0,2,3] (js [jf 31 0 3,jk 32 31,jf 33 1 3,jk 34 33,jb 35 .eql .s 32 34] [0,2,3,35] (.cond 35 (.reg none [jf 36 0 3,jp (.st 1 36 (.k (.c (.r (.v (.string s_k4))))))] [0,2,3]) .skip)))))) (.seq (js [jm 37 0,jq 38 (.callm 79 true 37 [(ki 2)])] [0,2,3,38] (.cond 38 (.reg none [jf 39 4 3,jp (.st 1 39 (ki 127))] [0,2,3]) .skip)) (.seq (js [jm 40 0,jq 41 (.callm 79 true 40 [(ki 9)])] [0,2,3,41] (.cond 41 (.reg none [jm 42 0,jq 43 (.bslr 1 [(ki 1),(ki 1440),(ki 4320)]),jq 44 (.callm 84 true 42 [43]),jf 45 3 3,jp (.st 1 45 44)] [2,3]) .skip)) (js [jl 46 6 3,jp (.st 6 2 46)] [2] .ret)))))
def BH:List RV:=[.c 2 true 6]
def cz (g:G) (t:TE):Nat→List Int→Int→Int→ByteArray→ByteArray→Option ((List Int)×Int×Int×ByteArray×ByteArray)
 |0,_,_,_,_,_=>none
 |n1+1,v1,v2,v3,v4,v5=>
  br (g.seq v4 v5)
  (
   lP ([gg,iJ,iA]) fun(l1:List ByteArray)=>
   cl (gZ g t (Cur.mk v1 v2 v3) l1) fun x7=>
   br (g.seq v4 x7.1)
   (
    cz g t n1 x7.2.b x7.2.i x7.2.h i8 x7.1)
   (
    cz g t n1 x7.2.b x7.2.i x7.2.h v4 x7.1))
  (
   some (v1,v2,v3,v4,v5))
def lg (g:G) (t:TE) (a0:Cur):Option (Leg×Cur):=
 cl (eM g t a0) fun x1=>
 cl (eM g t (Cur.mk x1.2.b x1.2.i x1.2.h)) fun x2=>
 cl (aF g t (Cur.mk x2.2.b x2.2.i x2.2.h) 48) fun x3=>
 cl (aF g t (Cur.mk x3.2.b x3.2.i x3.2.h) 40) fun x4=>
 cl (aF g t (Cur.mk x4.2.b x4.2.i x4.2.h) 127) fun x5=>
 cl (aF g t (Cur.mk x5.2.b x5.2.i x5.2.h) 60) fun x6=>
 cl (cz g t 1000000000 x6.2.b x6.2.i x6.2.h x1.1 x2.1) fun y1=>
 cl (cZ g t (Cur.mk y1.1 y1.2.1 y1.2.2.1) 2) fun x8=>
 br x8.1
 (
  cl (cZ g t (Cur.mk x8.2.b x8.2.i x8.2.h) 9) fun x9=>
  br x9.1
  (
   lP ([1,1440,4320]) fun(l2:List Int)=>
   cl (bS g t (Cur.mk x9.2.b x9.2.i x9.2.h) l2) fun x10=>
   some (((Leg.mk y1.2.2.2.1 y1.2.2.2.2 (g.wrap .i64 (g.mul 30 x3.1)) x10.1 127 (g.wrap .i64 (g.mul 1000 x6.1))),(Cur.mk x10.2.b x10.2.i x10.2.h))))
  (
   some (((Leg.mk y1.2.2.2.1 y1.2.2.2.2 (g.wrap .i64 (g.mul 30 x3.1)) (g.wrap .i64 (g.mul 30 (g.wrap .i64 (g.add 1 x4.1)))) 127 (g.wrap .i64 (g.mul 1000 x6.1))),(Cur.mk x9.2.b x9.2.i x9.2.h)))))
 (
  cl (cZ g t (Cur.mk x8.2.b x8.2.i x8.2.h) 9) fun x11=>
  br x11.1
  (
   lP ([1,1440,4320]) fun(l3:List Int)=>
   cl (bS g t (Cur.mk x11.2.b x11.2.i x11.2.h) l3) fun x12=>
   some (((Leg.mk y1.2.2.2.1 y1.2.2.2.2 (g.wrap .i64 (g.mul 30 x3.1)) x12.1 (g.wrap .i64 (g.add 1 x5.1)) (g.wrap .i64 (g.mul 1000 x6.1))),(Cur.mk x12.2.b x12.2.i x12.2.h))))
  (
   some (((Leg.mk y1.2.2.2.1 y1.2.2.2.2 (g.wrap .i64 (g.mul 30 x3.1)) (g.wrap .i64 (g.mul 30 (g.wrap .i64 (g.add 1 x4.1)))) (g.wrap .i64 (g.add 1 x5.1)) (g.wrap .i64 (g.mul 1000 x6.1))),(Cur.mk x11.2.b x11.2.i x11.2.h)))))
theorem v7 {g:G} {t:TE} {a0:Cur} {r:Leg×Cur} (hg:g=G.real) (ht:t=TE.real) (h:lg g t a0=some r):FnM Tryz.prog 101 (.p (Cur.ds t a0)) [] (.g (Leg.ds t r.1)) (.p (Cur.ds t r.2)):=by
 obtain⟨X,hX⟩:=au (.g (Leg.ds t r.1):X);obtain⟨Y,hY⟩:=au (.p (Cur.ds t r.2):AM);rw[←hX,←hY];refine dY (rvs:=BH) (j:=(Bc gg iJ iA i8)) Tryz.func101 rfl (by kernel_rfl) (nb rfl) (by kernel_rfl) ac ?_;intro g2 F hg2 hF;obtain rfl:g2=g:=hg2.unique.trans hg.symm;clear hg2;obtain⟨wrap,_,_,_,_,_,_,_,_,_,_,_,_,add,_,mul,_,seq⟩:=g2;obtain⟨r_U8,_,_,_,r_I64,_,r_S⟩:=t
 obtain⟨a0_b,a0_i,a0_h⟩:=a0;unfold lg at h;try dsimp only at h
 obtain⟨s_k1,hs_k1⟩:∃s,gg=s:=⟨_,rfl⟩;try rw[hs_k1] at h
 rw[hs_k1];obtain⟨s_k2,hs_k2⟩:∃s,iJ=s:=⟨_,rfl⟩;try rw[hs_k2] at h
 rw[hs_k2];obtain⟨s_k3,hs_k3⟩:∃s,iA=s:=⟨_,rfl⟩;try rw[hs_k3] at h
 rw[hs_k3];obtain⟨s_k4,hs_k4⟩:∃s,i8=s:=⟨_,rfl⟩;try rw[hs_k4] at h
 rw[hs_k4];cbv;obtain⟨x1,hx1,h⟩:=ae h;obtain⟨x1_1,⟨x1_2_b,x1_2_i,x1_2_h⟩⟩:=x1;try dsimp only at h
 refine ACallM.mk _ _ _ _ rfl rfl (hF _ _ _ (iR hg ht hx1)) rfl (nb rfl) (nb rfl) ?_;cbv;obtain⟨x2,hx2,h⟩:=ae h;obtain⟨x2_1,⟨x2_2_b,x2_2_i,x2_2_h⟩⟩:=x2;try dsimp only at h
 refine ACallM.mk _ _ _ _ rfl rfl (hF _ _ _ (iR hg ht hx2)) rfl (nb rfl) (nb rfl) ?_;cbv;obtain⟨x3,hx3,h⟩:=ae h;obtain⟨x3_1,⟨x3_2_b,x3_2_i,x3_2_h⟩⟩:=x3;try dsimp only at h
 refine ACallM.mk _ _ _ _ rfl rfl (hF _ _ _ (aw hg ht hx3)) rfl (nb rfl) (nb rfl) ?_;cbv;obtain⟨x4,hx4,h⟩:=ae h;obtain⟨x4_1,⟨x4_2_b,x4_2_i,x4_2_h⟩⟩:=x4;try dsimp only at h
 refine ACallM.mk _ _ _ _ rfl rfl (hF _ _ _ (aw hg ht hx4)) rfl (nb rfl) (nb rfl) ?_;cbv;obtain⟨x5,hx5,h⟩:=ae h;obtain⟨x5_1,⟨x5_2_b,x5_2_i,x5_2_h⟩⟩:=x5;try dsimp only at h
 refine ACallM.mk _ _ _ _ rfl rfl (hF _ _ _ (aw hg ht hx5)) rfl (nb rfl) (nb rfl) ?_;cbv;obtain⟨x6,hx6,h⟩:=ae h;obtain⟨x6_1,⟨x6_2_b,x6_2_i,x6_2_h⟩⟩:=x6;try dsimp only at h
 refine ACallM.mk _ _ _ _ rfl rfl (hF _ _ _ (aw hg ht hx6)) rfl (nb rfl) (nb rfl) ?_;cbv;obtain⟨o1,ho1,h⟩:=ae h;try dsimp only at h
 try rw[hg] at ho1
 try rw[ht] at ho1
 refine ABL.mk {p:Nat×(List Int)×Int×Int×ByteArray×ByteArray//cz G.real TE.real p.1 p.2.1 p.2.2.1 p.2.2.2.1 p.2.2.2.2.1 p.2.2.2.2.2=some o1} (fun⟨⟨n1,v1,v2,v3,v4,v5⟩,_⟩=>({sl:=[(0,.c (.p 3 3 0 0)),(2,.c (.p 0 6 0 0)),(3,.c (.p 1 6 0 0))],tab:=[(0,some (.foc 6 [] [.r (.v (.string ByteArray.empty)),.r (.v (.string ByteArray.empty)),.r (.v (.int .i64 0)),.r (.v (.int .i64 0)),.r (.v (.int .i64 0)),.r (.v (.int .i64 0))] [])),(1,some (.foc 6 [] [.r (.v (.string v4)),.r (.v (.string v5)),.r (.v (.int .i64 (wrap .i64 (mul 30 x3_1)))),.r (.v (.int .i64 (wrap .i64 (mul 30 (wrap .i64 (add 1 x4_1)))))),.r (.v (.int .i64 (wrap .i64 (add 1 x5_1)))),.r (.v (.int .i64 (wrap .i64 (mul 1000 x6_1))))] [])),(3,some (.foc 3 [] [.r (.s 1 (r_U8 v1)),.r (.v (.int .i64 v2)),.r (.v (.int .i64 v3))] []))]}:St)) 4 (fun p=>p.1.1) ⟨(1000000000,x6_2_b,x6_2_i,x6_2_h,x1_1,x2_1),ho1⟩ ((List Int)×Int×Int×ByteArray×ByteArray) (fun⟨y1_1,y1_2_1,y1_2_2_1,y1_2_2_2_1,y1_2_2_2_2⟩=>({sl:=[(0,.c (.p 3 3 0 0)),(2,.c (.p 0 6 0 0)),(3,.c (.p 1 6 0 0))],tab:=[(0,some (.foc 6 [] [.r (.v (.string ByteArray.empty)),.r (.v (.string ByteArray.empty)),.r (.v (.int .i64 0)),.r (.v (.int .i64 0)),.r (.v (.int .i64 0)),.r (.v (.int .i64 0))] [])),(1,some (.foc 6 [] [.r (.v (.string y1_2_2_2_1)),.r (.v (.string y1_2_2_2_2)),.r (.v (.int .i64 (wrap .i64 (mul 30 x3_1)))),.r (.v (.int .i64 (wrap .i64 (mul 30 (wrap .i64 (add 1 x4_1)))))),.r (.v (.int .i64 (wrap .i64 (add 1 x5_1)))),.r (.v (.int .i64 (wrap .i64 (mul 1000 x6_1))))] [])),(3,some (.foc 3 [] [.r (.s 1 (r_U8 y1_1)),.r (.v (.int .i64 y1_2_1)),.r (.v (.int .i64 y1_2_2_1))] []))]}:St)) 4 (fun y=>o1=y) ?_ ?_ ?_
 ·refine Wk.of [(0,some 4),(1,some 308),(3,some 3)] rfl rfl ?_ ?_
  ·cbv;all_goals exact⟨⟨_,rfl,rfl⟩,⟨_,rfl,rfl⟩,⟨_,rfl,rfl⟩,trivial⟩
  cbv;all_goals exact⟨⟨_,rfl,_,rfl,rfl,rfl,rfl,rfl,rfl,rfl,trivial⟩,⟨_,rfl,_,rfl,rfl,rfl,rfl,rfl,rfl,rfl,trivial⟩,⟨_,rfl,_,rfl,rfl,rfl,rfl,trivial⟩,trivial⟩
 ·rintro⟨⟨n1,v1,v2,v3,v4,v5⟩,h_1⟩ hq1;try dsimp only at h_1
  clear hq1;rcases n1 with _|n1
  ·rw[cz] at h_1;cases h_1
  rw[cz] at h_1;try rw[←hg] at h_1
  try rw[←ht] at h_1
  try dsimp only at h_1
  try rw[hs_k1] at h_1
  try rw[hs_k2] at h_1
  try rw[hs_k3] at h_1
  try rw[hs_k4] at h_1
  cbv
  cases hb1:(seq v4 v5)
  ·rw[aa hb1] at h_1;cbv;refine⟨(v1,v2,v3,v4,v5),Wk.of [(0,some 0),(1,some 1),(3,some 3)] rfl rfl ?_ ?_,(Option.some.inj h_1).symm⟩
   ·cbv;all_goals exact⟨⟨_,rfl,rfl⟩,⟨_,rfl,rfl⟩,⟨_,rfl,rfl⟩,trivial⟩
   cbv;all_goals exact⟨⟨_,rfl,_,rfl,rfl,rfl,rfl,rfl,rfl,rfl,trivial⟩,⟨_,rfl,_,rfl,rfl,rfl,rfl,rfl,rfl,rfl,trivial⟩,⟨_,rfl,_,rfl,rfl,rfl,rfl,trivial⟩,trivial⟩
  rw[ab hb1] at h_1;cbv;obtain⟨l1,hl1,h_1⟩:=aj h_1;try dsimp only at h_1
  refine AVal.mk (r_S l1) (by rw[←hl1];exact s8 hg ht [s_k1,s_k2,s_k3]) ?_;cbv;obtain⟨x7,hx7,h_1⟩:=ae h_1;obtain⟨x7_1,⟨x7_2_b,x7_2_i,x7_2_h⟩⟩:=x7;try dsimp only at h_1
  refine ACallM.mk _ _ _ _ rfl rfl (hF _ _ _ (lJ hg ht hx7)) rfl (nb rfl) (nb rfl) ?_;cbv
  cases hb2:(seq v4 x7_1)
  ·rw[aa hb2] at h_1;cbv;try rw[hg] at h_1
   try rw[ht] at h_1
   refine⟨⟨(n1,x7_2_b,x7_2_i,x7_2_h,v4,x7_1),h_1⟩,Wk.of [(0,some 0),(1,some 1),(3,some 3)] rfl rfl ?_ ?_,Nat.lt_succ_self _⟩
   ·cbv;all_goals exact⟨⟨_,rfl,rfl⟩,⟨_,rfl,rfl⟩,⟨_,rfl,rfl⟩,trivial⟩
   cbv;all_goals exact⟨⟨_,rfl,_,rfl,rfl,rfl,rfl,rfl,rfl,rfl,trivial⟩,⟨_,rfl,_,rfl,rfl,rfl,rfl,rfl,rfl,rfl,trivial⟩,⟨_,rfl,_,rfl,rfl,rfl,rfl,trivial⟩,trivial⟩
  rw[ab hb2] at h_1;cbv;try rw[hg] at h_1
  try rw[ht] at h_1
  refine⟨⟨(n1,x7_2_b,x7_2_i,x7_2_h,s_k4,x7_1),h_1⟩,Wk.of [(0,some 0),(1,some 1),(3,some 3)] rfl rfl ?_ ?_,Nat.lt_succ_self _⟩
  ·cbv;all_goals exact⟨⟨_,rfl,rfl⟩,⟨_,rfl,rfl⟩,⟨_,rfl,rfl⟩,trivial⟩
  cbv;all_goals exact⟨⟨_,rfl,_,rfl,rfl,rfl,rfl,rfl,rfl,rfl,trivial⟩,⟨_,rfl,_,rfl,rfl,rfl,rfl,rfl,rfl,rfl,trivial⟩,⟨_,rfl,_,rfl,rfl,rfl,rfl,trivial⟩,trivial⟩
 rintro⟨y1_1,y1_2_1,y1_2_2_1,y1_2_2_2_1,y1_2_2_2_2⟩ hy1;replace hy1:=hy1.symm;subst hy1;try dsimp only[lr,lrL,lrp,bu] at h
 cbv;obtain⟨x8,hx8,h⟩:=ae h;obtain⟨x8_1,⟨x8_2_b,x8_2_i,x8_2_h⟩⟩:=x8;try dsimp only at h
 refine ACallM.mk _ _ _ _ rfl rfl (hF _ _ _ (di hg ht hx8)) rfl (nb rfl) (nb rfl) ?_;cbv;have hb3:x8_1=true∨x8_1=false:=by cases x8_1<;>simp
 rcases hb3 with hb3|hb3
 ·rw[ab hb3] at h;have hK_:=h;subst hb3;have h:=hK_;clear hK_;cbv;obtain⟨x9,hx9,h⟩:=ae h;obtain⟨x9_1,⟨x9_2_b,x9_2_i,x9_2_h⟩⟩:=x9;try dsimp only at h
  refine ACallM.mk _ _ _ _ rfl rfl (hF _ _ _ (di hg ht hx9)) rfl (nb rfl) (nb rfl) ?_;cbv;have hb4:x9_1=true∨x9_1=false:=by cases x9_1<;>simp
  rcases hb4 with hb4|hb4
  ·rw[ab hb4] at h;have hK_:=h;subst hb4;have h:=hK_;clear hK_;cbv;obtain⟨l2,hl2,h⟩:=aj h;try dsimp only at h
   refine AVal.mk (r_I64 l2) (by rw[←hl2];exact cf hg ht [1,1440,4320]) ?_;cbv;obtain⟨x10,hx10,h⟩:=ae h;obtain⟨x10_1,⟨x10_2_b,x10_2_i,x10_2_h⟩⟩:=x10;try dsimp only at h
   refine ACallM.mk _ _ _ _ rfl rfl (hF _ _ _ (bH hg ht hx10)) rfl (nb rfl) (nb rfl) ?_;cbv;obtain rfl:=Option.some.inj h;exact ARetM.mk trivial hX.symm hY.symm
  rw[aa hb4] at h;have hK_:=h;subst hb4;have h:=hK_;clear hK_;cbv;obtain rfl:=Option.some.inj h;exact ARetM.mk trivial hX.symm hY.symm
 rw[aa hb3] at h;have hK_:=h;subst hb3;have h:=hK_;clear hK_;cbv;obtain⟨x11,hx11,h⟩:=ae h;obtain⟨x11_1,⟨x11_2_b,x11_2_i,x11_2_h⟩⟩:=x11;try dsimp only at h
 refine ACallM.mk _ _ _ _ rfl rfl (hF _ _ _ (di hg ht hx11)) rfl (nb rfl) (nb rfl) ?_;cbv;have hb5:x11_1=true∨x11_1=false:=by cases x11_1<;>simp
 rcases hb5 with hb5|hb5
 ·rw[ab hb5] at h;have hK_:=h;subst hb5;have h:=hK_;clear hK_;cbv;obtain⟨l3,hl3,h⟩:=aj h;try dsimp only at h
  refine AVal.mk (r_I64 l3) (by rw[←hl3];exact cf hg ht [1,1440,4320]) ?_;cbv;obtain⟨x12,hx12,h⟩:=ae h;obtain⟨x12_1,⟨x12_2_b,x12_2_i,x12_2_h⟩⟩:=x12;try dsimp only at h
  refine ACallM.mk _ _ _ _ rfl rfl (hF _ _ _ (bH hg ht hx12)) rfl (nb rfl) (nb rfl) ?_;cbv;obtain rfl:=Option.some.inj h;exact ARetM.mk trivial hX.symm hY.symm
 rw[aa hb5] at h;have hK_:=h;subst hb5;have h:=hK_;clear hK_;cbv;obtain rfl:=Option.some.inj h;exact ARetM.mk trivial hX.symm hY.symm
def ir81:J:=js [jq 4 (.alloc [.n 6,.n 1,.r (.v (.int .i64 0))])] [0,1,4] (js [jm 8 0,jq 9 (.callm 83 true 8 [(ki 9)]),jb 10 .mul .i (ki 15) 9,jq 11 (.bld [.n 6,.n 1,.r (.v (.int .i64 0))] [(2,1,10)]),jq 5 (.alloc [.n 6,.n 1,.r (.v (.int .i64 0))]),jp (.st 3 5 11)] [0,1,4,5] (.seq (js [jm 12 0,jm 13 1,jq 14 (.callm 83 true 12 [13]),jb 15 .add .i (ki 1) 14,jm 6 15] [0,1,4,5,6] (.bl 0 (.seq (js [jm 16 6,jb 17 .gtr .i 16 (ki 0)] [0,1,4,5,6,17] (.cond 17 .skip (.exit 0))) (.seq (.block 1 (js [jm 20 0,jq 21 (.callm 101 true 20 []),jq 7 (.alloc [.r (.v (.string .empty)),.r (.v (.string .empty)),.r (.v (.int .i64 0)),.r (.v (.int .i64 0)),.r (.v (.int .i64 0)),.r (.v (.int .i64 0))]),jp (.st 6 7 21)] [0,1,4,5,6,7] (js [jf 22 0 5,jk 23 22,jl 24 6 7,jq 25 (.bsl 6 [24]),jq 26 (.app 6 64 true 23 25),jf 27 0 5,jp (.st 1 27 26)] [0,1,4,5,6,7] (js [jm 28 0,jq 29 (.callm 79 true 28 [(ki 3)]),jm 30 29,ju 31 30 (.fa 0 5),ju 32 30 (.ld false 1 31),ju 33 30 (.len false 32),ju 34 30 (.mv 1),ju 35 30 (.bin .lss .i 33 34),jq 36 (.pick 30 35 kf)] [0,1,4,5,6,7,36] (.cond 36 (js [jf 37 0 5,jk 38 37,jf 39 0 5,jk 40 39,jq 41 (.len false 40),jb 42 .sub .i 41 (ki 1),ja 43 6 38 42,jf 44 1 43,jk 45 44,jf 46 0 7,jp (.st 1 46 45)] [0,1,4,5,6,7] (js [jf 47 0 5,jk 48 47,jf 49 0 5,jk 50 49,jq 51 (.len false 50),jb 52 .sub .i 51 (ki 1),ja 53 6 48 52,jf 54 0 53,jk 55 54,jf 56 1 7,jp (.st 1 56 55)] [0,1,4,5,6,7] (.seq (.reg (some [[],[0],[],[2],[2,3],[0,1,2,3,4],[0,1,2,3,4,5],[0,1,2,3,4,5,6],[0,1,2,3,4,5,6,7]]) [jf 57 2 7,jk 58 57,jm 59 0,jq 60 (.callm 83 true 59 [(ki 20)]),jb 61 .mul .i (ki 60) 60,jb 62 .add .i 58 61,jb 63 .rem .i 62 (ki 1440),jf 64 2 7,jp (.st 1 64 63)] [0,1,4,5,6,7]) (.reg none [jf 65 0 5,jk 66 65,jl 67 6 7,jq 68 (.bsl 6 [67]),jq 69 (.app 6 64 true 66 68),jf 70 0 5,jp (.st 1 70 69)] [0,1,4,5,6])))) .skip))))) (.reg none [jm 18 6,jb 19 .sub .i 18 (ki 1),jm 6 19] [0,1,4,5,6]))))) (.seq (js [jm 71 0,jq 72 (.callm 79 true 71 [(ki 2)])] [0,4,5,72] (.cond 72 (.reg none [jm 73 0,jq 74 (.callm 83 true 73 [(ki 3)]),jm 75 0,jq 76 (.callm 83 true 75 [(ki 4)]),jb 77 .add .i (ki 3) 76,jq 78 (.bsl 1 [74,77]),jf 79 1 5,jp (.st 1 79 78)] [4,5]) .skip)) (js [jl 80 3 5,jp (.st 3 4 80)] [4] .ret))))
def rv81:List RV:=[.c 4 true 3]
def bE (g:G) (t:TE) (a1:Int):Nat→List Int→Int→Int→List Leg→Int→Option ((List Int)×Int×Int×List Leg)
 |0,_,_,_,_,_=>none
 |n1+1,v1,v2,v3,w1,v4=>
  br (g.lt 0 v4)
  (
   cl (lg g t (Cur.mk v1 v2 v3)) fun x3=>
   lP ([(Leg.mk x3.1.From x3.1.To x3.1.Start x3.1.Takes x3.1.Days x3.1.Room)]) fun(l1:List Leg)=>
   gd (((w1.length+l1.length)*64≤70368744177664))<|
   lP (w1++l1) fun(l2:List Leg)=>
   cl (cZ g t (Cur.mk x3.2.b x3.2.i x3.2.h) 3) fun x4=>
   br x4.1
   (
    br (g.lt (g.int (g.dlen (t.d_Leg l2))) a1)
    (
     gd (((0:Int)≤(g.wrap .i64 (g.sub (g.int (g.dlen (t.d_Leg l2))) 1))∧(g.wrap .i64 (g.sub (g.int (g.dlen (t.d_Leg l2))) 1))<(((g.dlen (t.d_Leg l2)):Nat):Int)))<|
     gt l2 (g.nat (g.wrap .i64 (g.sub (g.int (g.dlen (t.d_Leg l2))) 1))) fun x5=>
     gd (((0:Int)≤(g.wrap .i64 (g.sub (g.int (g.dlen (t.d_Leg l2))) 1))∧(g.wrap .i64 (g.sub (g.int (g.dlen (t.d_Leg l2))) 1))<(((g.dlen (t.d_Leg l2)):Nat):Int)))<|
     cl (aF g t (Cur.mk x4.2.b x4.2.i x4.2.h) 20) fun x6=>
     lP ([(Leg.mk x5.To x5.From (g.rem (g.wrap .i64 (g.add x3.1.Start (g.wrap .i64 (g.mul 60 x6.1)))) 1440) x3.1.Takes x3.1.Days x3.1.Room)]) fun(l3:List Leg)=>
     gd (((l2.length+l3.length)*64≤70368744177664))<|
     lP (l2++l3) fun(l4:List Leg)=>
     bE g t a1 n1 x6.2.b x6.2.i x6.2.h l4 (g.wrap .i64 (g.sub v4 1)))
    (
     bE g t a1 n1 x4.2.b x4.2.i x4.2.h l2 (g.wrap .i64 (g.sub v4 1))))
   (
    bE g t a1 n1 x4.2.b x4.2.i x4.2.h l2 (g.wrap .i64 (g.sub v4 1))))
  (
   some (v1,v2,v3,w1))
def gG (g:G) (t:TE) (a0:Cur) (a1:Int):Option (Network×Cur):=
 cl (aF g t a0 9) fun x1=>
 cl (aF g t (Cur.mk x1.2.b x1.2.i x1.2.h) a1) fun x2=>
 cl (bE g t a1 1000000000 x2.2.b x2.2.i x2.2.h [] (g.wrap .i64 (g.add 1 x2.1))) fun y1=>
 cl (cZ g t (Cur.mk y1.1 y1.2.1 y1.2.2.1) 2) fun x7=>
 br x7.1
 (
  cl (aF g t (Cur.mk x7.2.b x7.2.i x7.2.h) 3) fun x8=>
  cl (aF g t (Cur.mk x8.2.b x8.2.i x8.2.h) 4) fun x9=>
  lP ([x8.1,(g.wrap .i64 (g.add 3 x9.1))]) fun(l5:List Int)=>
  some (((Network.mk y1.2.2.2 l5 (g.wrap .i64 (g.mul 15 x1.1))),(Cur.mk x9.2.b x9.2.i x9.2.h))))
 (
  some (((Network.mk y1.2.2.2 [] (g.wrap .i64 (g.mul 15 x1.1))),(Cur.mk x7.2.b x7.2.i x7.2.h))))
theorem nr {g:G} {t:TE} {a0:Cur} {a1:Int} {r:Network×Cur} (hg:g=G.real) (ht:t=TE.real) (h:gG g t a0 a1=some r):FnM Tryz.prog 81 (.p (Cur.ds t a0)) [.c (.v (.int .i64 a1))] (.g (Network.ds t r.1)) (.p (Cur.ds t r.2)):=by
 obtain⟨X,hX⟩:=au (.g (Network.ds t r.1):X);obtain⟨Y,hY⟩:=au (.p (Cur.ds t r.2):AM);rw[←hX,←hY];refine dY (rvs:=rv81) (j:=ir81) Tryz.func81 rfl (by kernel_rfl) (nb rfl) (by kernel_rfl) ac ?_;intro g2 F hg2 hF;obtain rfl:g2=g:=hg2.unique.trans hg.symm;clear hg2;obtain⟨wrap,lt,_,_,_,rem,_,_,_,_,_,_,int,add,sub,mul,_,_,_,_,_,_,_,_,dlen⟩:=g2;obtain⟨r_U8,_,_,d_Leg,_,d_I64⟩:=t
 obtain⟨a0_b,a0_i,a0_h⟩:=a0;have hnil_Leg:d_Leg []=[]:=vb ht;have hnil_I64:d_I64 []=[]:=vu ht;unfold gG at h;try dsimp only at h
 cbv;obtain⟨x1,hx1,h⟩:=ae h;obtain⟨x1_1,⟨x1_2_b,x1_2_i,x1_2_h⟩⟩:=x1;try dsimp only at h
 refine ACallM.mk _ _ _ _ rfl rfl (hF _ _ _ (aw hg ht hx1)) rfl (nb rfl) (nb rfl) ?_;cbv;obtain⟨x2,hx2,h⟩:=ae h;obtain⟨x2_1,⟨x2_2_b,x2_2_i,x2_2_h⟩⟩:=x2;try dsimp only at h
 refine ACallM.mk _ _ _ _ rfl rfl (hF _ _ _ (aw hg ht hx2)) rfl (nb rfl) (nb rfl) ?_;cbv;obtain⟨o1,ho1,h⟩:=ae h;try dsimp only at h
 try rw[hg] at ho1
 try rw[ht] at ho1
 refine ABL.mk {p:Nat×(List Int)×Int×Int×(List Leg)×Int//bE G.real TE.real a1 p.1 p.2.1 p.2.2.1 p.2.2.2.1 p.2.2.2.2.1 p.2.2.2.2.2=some o1} (fun⟨⟨n1,v1,v2,v3,w1,v4⟩,_⟩=>({sl:=[(0,.c (.p 3 3 0 0)),(1,.c (.r (.v (.int .i64 a1)))),(4,.c (.p 0 3 0 0)),(5,.c (.p 1 3 0 0)),(6,.c (.r (.v (.int .i64 v4))))],tab:=[(0,some (.foc 3 [] [.n 6,.n 1,.r (.v (.int .i64 0))] [])),(1,some (.foc 3 [] [.f 2 6 0 (dlen (d_Leg w1)),.n 1,.r (.v (.int .i64 (wrap .i64 (mul 15 x1_1))))] [])),(2,some (.arr 6 (d_Leg w1))),(3,some (.foc 3 [] [.r (.s 1 (r_U8 v1)),.r (.v (.int .i64 v2)),.r (.v (.int .i64 v3))] []))]}:St)) 4 (fun p=>p.1.1) ⟨(1000000000,x2_2_b,x2_2_i,x2_2_h,[],(wrap .i64 (add 1 x2_1))),ho1⟩ ((List Int)×Int×Int×List Leg) (fun⟨y1_1,y1_2_1,y1_2_2_1,y1_2_2_2⟩=>({sl:=[(0,.c (.p 3 3 0 0)),(4,.c (.p 0 3 0 0)),(5,.c (.p 1 3 0 0))],tab:=[(0,some (.foc 3 [] [.n 6,.n 1,.r (.v (.int .i64 0))] [])),(1,some (.foc 3 [] [.f 2 6 0 (dlen (d_Leg y1_2_2_2)),.n 1,.r (.v (.int .i64 (wrap .i64 (mul 15 x1_1))))] [])),(2,some (.arr 6 (d_Leg y1_2_2_2))),(3,some (.foc 3 [] [.r (.s 1 (r_U8 y1_1)),.r (.v (.int .i64 y1_2_1)),.r (.v (.int .i64 y1_2_2_1))] []))]}:St)) 4 (fun y=>o1=y) ?_ ?_ ?_
 ·refine Wk.of [(0,some 4),(1,some 84),(2,none),(3,some 3)] rfl rfl ?_ ?_
  ·cbv;all_goals try rw[show dlen (d_Leg [])=0 from kO hg ht]
   all_goals try rw[hnil_Leg]
   all_goals exact⟨⟨_,rfl,rfl⟩,⟨_,rfl,rfl⟩,⟨_,rfl,rfl⟩,⟨_,rfl,rfl⟩,⟨_,rfl,rfl⟩,trivial⟩
  cbv;all_goals try rw[show dlen (d_Leg [])=0 from kO hg ht]
  all_goals try rw[hnil_Leg]
  all_goals exact⟨⟨_,rfl,_,rfl,rfl,rfl,rfl,trivial⟩,⟨_,rfl,_,rfl,⟨⟨_,rfl⟩,rfl,rfl⟩,rfl,rfl,trivial⟩,⟨_,rfl⟩,⟨_,rfl,_,rfl,rfl,rfl,rfl,trivial⟩,trivial⟩
 ·rintro⟨⟨n1,v1,v2,v3,w1,v4⟩,h_1⟩ hq1;try dsimp only at h_1
  clear hq1;rcases n1 with _|n1
  ·rw[bE] at h_1;cases h_1
  rw[bE] at h_1;try rw[←hg] at h_1
  try rw[←ht] at h_1
  try dsimp only at h_1
  cbv
  cases hb1:(lt 0 v4)
  ·rw[aa hb1] at h_1;cbv;refine⟨(v1,v2,v3,w1),Wk.of [(0,some 0),(1,some 1),(2,some 2),(3,some 3)] rfl rfl ?_ ?_,(Option.some.inj h_1).symm⟩
   ·cbv;all_goals exact⟨⟨_,rfl,rfl⟩,⟨_,rfl,rfl⟩,⟨_,rfl,rfl⟩,trivial⟩
   cbv;all_goals exact⟨⟨_,rfl,_,rfl,rfl,rfl,rfl,trivial⟩,⟨_,rfl,_,rfl,rfl,rfl,rfl,trivial⟩,⟨_,rfl,rfl⟩,⟨_,rfl,_,rfl,rfl,rfl,rfl,trivial⟩,trivial⟩
  rw[ab hb1] at h_1;cbv;obtain⟨x3,hx3,h_1⟩:=ae h_1;obtain⟨⟨x3_1_From,x3_1_To,x3_1_Start,x3_1_Takes,x3_1_Days,x3_1_Room⟩,⟨x3_2_b,x3_2_i,x3_2_h⟩⟩:=x3;try dsimp only at h_1
  refine ACallM.mk _ _ _ _ rfl rfl (hF _ _ _ (v7 hg ht hx3)) rfl (nb rfl) (nb rfl) ?_;cbv;obtain⟨l1,hl1,h_1⟩:=aj h_1;try dsimp only at h_1
  refine ANew.mk (d_Leg l1) (dlen (d_Leg l1)) (by rw[←hl1];exact qQ hg ht [(Leg.mk x3_1_From x3_1_To x3_1_Start x3_1_Takes x3_1_Days x3_1_Room)]) (by rw[←hl1];exact nu hg ht [(Leg.mk x3_1_From x3_1_To x3_1_Start x3_1_Takes x3_1_Days x3_1_Room)]) ?_;cbv;obtain⟨hc4,h_1⟩:=ai h_1;refine AStep.mk ⟨⟨rfl,(aH hg ht _)⟩,(jQ hg ht (aH hg ht _) rfl hc4)⟩ ?_;cbv;obtain⟨l2,hl2,h_1⟩:=aj h_1;try dsimp only at h_1
  refine ANew.mk (d_Leg l2) (dlen (d_Leg l2)) (by rw[←hl2];exact qV hg ht (aH hg ht _) rfl) (by rw[←hl2];exact oV hg ht (aH hg ht _) rfl) ?_;cbv;obtain⟨x4,hx4,h_1⟩:=ae h_1;obtain⟨x4_1,⟨x4_2_b,x4_2_i,x4_2_h⟩⟩:=x4;try dsimp only at h_1
  refine ACallM.mk _ _ _ _ rfl rfl (hF _ _ _ (di hg ht hx4)) rfl (nb rfl) (nb rfl) ?_;cbv;have hb2:x4_1=true∨x4_1=false:=by cases x4_1<;>simp
  rcases hb2 with hb2|hb2
  ·rw[ab hb2] at h_1;have hK_:=h_1;subst hb2;have h_1:=hK_;clear hK_;cbv;iterate 5 try(rw[hb2];cbv)
   cases hb3:(lt (int (dlen (d_Leg l2))) a1)
   ·rw[aa hb3] at h_1;cbv;try rw[hg] at h_1
    try rw[ht] at h_1
    refine⟨⟨(n1,x4_2_b,x4_2_i,x4_2_h,l2,(wrap .i64 (sub v4 1))),h_1⟩,Wk.of [(0,some 0),(1,some 1),(2,some 164),(3,some 3)] rfl rfl ?_ ?_,Nat.lt_succ_self _⟩
    ·cbv;all_goals exact⟨⟨_,rfl,rfl⟩,⟨_,rfl,rfl⟩,⟨_,rfl,rfl⟩,⟨_,rfl,rfl⟩,⟨_,rfl,rfl⟩,trivial⟩
    cbv;all_goals exact⟨⟨_,rfl,_,rfl,rfl,rfl,rfl,trivial⟩,⟨_,rfl,_,rfl,rfl,rfl,rfl,trivial⟩,⟨_,rfl,rfl⟩,⟨_,rfl,_,rfl,rfl,rfl,rfl,trivial⟩,trivial⟩
   rw[ab hb3] at h_1;cbv;obtain⟨hc1,h_1⟩:=ai h_1;refine AStep.mk hc1 ?_;cbv;obtain⟨x5,hx5,h_1⟩:=aP h_1;obtain⟨x5_From,x5_To,x5_Start,x5_Takes,x5_Days,x5_Room⟩:=x5;try dsimp only at h_1
   refine AGet.mk _ (dt hg ht hx5) ?_;cbv;obtain⟨hc2,h_1⟩:=ai h_1;refine AStep.mk hc2 ?_;cbv;refine AGet.mk _ (dt hg ht hx5) ?_;cbv;obtain⟨x6,hx6,h_1⟩:=ae h_1;obtain⟨x6_1,⟨x6_2_b,x6_2_i,x6_2_h⟩⟩:=x6;try dsimp only at h_1
   refine ACallM.mk _ _ _ _ rfl rfl (hF _ _ _ (aw hg ht hx6)) rfl (nb rfl) (nb rfl) ?_;cbv;refine AStep.mk (by decide) ?_;cbv;obtain⟨l3,hl3,h_1⟩:=aj h_1;try dsimp only at h_1
   refine ANew.mk (d_Leg l3) (dlen (d_Leg l3)) (by rw[←hl3];exact qQ hg ht [(Leg.mk x5_To x5_From (rem (wrap .i64 (add x3_1_Start (wrap .i64 (mul 60 x6_1)))) 1440) x3_1_Takes x3_1_Days x3_1_Room)]) (by rw[←hl3];exact nu hg ht [(Leg.mk x5_To x5_From (rem (wrap .i64 (add x3_1_Start (wrap .i64 (mul 60 x6_1)))) 1440) x3_1_Takes x3_1_Days x3_1_Room)]) ?_;cbv;obtain⟨hc3,h_1⟩:=ai h_1;refine AStep.mk ⟨⟨rfl,(aH hg ht _)⟩,(jQ hg ht (aH hg ht _) rfl hc3)⟩ ?_;cbv;obtain⟨l4,hl4,h_1⟩:=aj h_1;try dsimp only at h_1
   refine ANew.mk (d_Leg l4) (dlen (d_Leg l4)) (by rw[←hl4];exact qV hg ht (aH hg ht _) rfl) (by rw[←hl4];exact oV hg ht (aH hg ht _) rfl) ?_;cbv;try rw[hg] at h_1
   try rw[ht] at h_1
   refine⟨⟨(n1,x6_2_b,x6_2_i,x6_2_h,l4,(wrap .i64 (sub v4 1))),h_1⟩,Wk.of [(0,some 0),(1,some 1),(2,some 916),(3,some 3)] rfl rfl ?_ ?_,Nat.lt_succ_self _⟩
   ·cbv;all_goals exact⟨⟨_,rfl,rfl⟩,⟨_,rfl,rfl⟩,⟨_,rfl,rfl⟩,⟨_,rfl,rfl⟩,⟨_,rfl,rfl⟩,trivial⟩
   cbv;all_goals exact⟨⟨_,rfl,_,rfl,rfl,rfl,rfl,trivial⟩,⟨_,rfl,_,rfl,rfl,rfl,rfl,trivial⟩,⟨_,rfl,rfl⟩,⟨_,rfl,_,rfl,rfl,rfl,rfl,trivial⟩,trivial⟩
  rw[aa hb2] at h_1;have hK_:=h_1;subst hb2;have h_1:=hK_;clear hK_;cbv;iterate 5 try(rw[hb2];cbv)
  try rw[hg] at h_1
  try rw[ht] at h_1
  refine⟨⟨(n1,x4_2_b,x4_2_i,x4_2_h,l2,(wrap .i64 (sub v4 1))),h_1⟩,Wk.of [(0,some 0),(1,some 1),(2,some 164),(3,some 3)] rfl rfl ?_ ?_,Nat.lt_succ_self _⟩
  ·cbv;all_goals exact⟨⟨_,rfl,rfl⟩,⟨_,rfl,rfl⟩,⟨_,rfl,rfl⟩,⟨_,rfl,rfl⟩,⟨_,rfl,rfl⟩,trivial⟩
  cbv;all_goals exact⟨⟨_,rfl,_,rfl,rfl,rfl,rfl,trivial⟩,⟨_,rfl,_,rfl,rfl,rfl,rfl,trivial⟩,⟨_,rfl,rfl⟩,⟨_,rfl,_,rfl,rfl,rfl,rfl,trivial⟩,trivial⟩
 rintro⟨y1_1,y1_2_1,y1_2_2_1,y1_2_2_2⟩ hy1;replace hy1:=hy1.symm;subst hy1;try dsimp only[lr,lrL,lrp,bu] at h
 cbv;obtain⟨x7,hx7,h⟩:=ae h;obtain⟨x7_1,⟨x7_2_b,x7_2_i,x7_2_h⟩⟩:=x7;try dsimp only at h
 refine ACallM.mk _ _ _ _ rfl rfl (hF _ _ _ (di hg ht hx7)) rfl (nb rfl) (nb rfl) ?_;cbv;have hb4:x7_1=true∨x7_1=false:=by cases x7_1<;>simp
 rcases hb4 with hb4|hb4
 ·rw[ab hb4] at h;have hK_:=h;subst hb4;have h:=hK_;clear hK_;cbv;obtain⟨x8,hx8,h⟩:=ae h;obtain⟨x8_1,⟨x8_2_b,x8_2_i,x8_2_h⟩⟩:=x8;try dsimp only at h
  refine ACallM.mk _ _ _ _ rfl rfl (hF _ _ _ (aw hg ht hx8)) rfl (nb rfl) (nb rfl) ?_;cbv;obtain⟨x9,hx9,h⟩:=ae h;obtain⟨x9_1,⟨x9_2_b,x9_2_i,x9_2_h⟩⟩:=x9;try dsimp only at h
  refine ACallM.mk _ _ _ _ rfl rfl (hF _ _ _ (aw hg ht hx9)) rfl (nb rfl) (nb rfl) ?_;cbv;obtain⟨l5,hl5,h⟩:=aj h;try dsimp only at h
  refine ANew.mk (d_I64 l5) (dlen (d_I64 l5)) (by rw[←hl5];exact rb hg ht [x8_1,(wrap .i64 (add 3 x9_1))]) (by rw[←hl5];exact rB hg ht [x8_1,(wrap .i64 (add 3 x9_1))]) ?_;cbv;obtain rfl:=Option.some.inj h;exact ARetM.mk ⟨⟨rfl,(aH hg ht _)⟩,⟨rfl,(bg hg ht _)⟩⟩ hX.symm hY.symm
 rw[aa hb4] at h;have hK_:=h;subst hb4;have h:=hK_;clear hK_;cbv;obtain rfl:=Option.some.inj h;exact ARetM.mk ⟨rfl,(aH hg ht _)⟩ (by rw[hX];first|rfl|(simp only[Leg.ds,Network.ds,Trip.ds,Scan.ds,Spot.ds,Cur.ds,hnil_I64];try rfl)) (by rw[hY];first|rfl|(simp only[Leg.ds,Network.ds,Trip.ds,Scan.ds,Spot.ds,Cur.ds,hnil_I64];try rfl))
def ir80:J:=js [jq 2 (.alloc [.n 6,.n 1,.r (.v (.int .i64 0))])] [0,2] (js [jm 5 0,jq 6 (.callm 81 true 5 [(ki 6)]),jq 3 (.alloc [.n 6,.n 1,.r (.v (.int .i64 0))]),jp (.st 3 3 6)] [0,2,3] (js [jm 7 0,jf 8 0 3,jk 9 8,jq 10 (.len false 9),jq 11 (.callm 83 true 7 [10]),jm 4 11] [0,2,3,4] (.seq (js [jm 12 0,jq 13 (.callm 83 true 12 [(ki 10)])] [0,2,3,4,13] (.block 0 (js [jb 15 .eql .i 13 (ki 0),jm 14 15] [0,2,3,4,13,14] (.cond 14 (.reg (some [[],[0],[],[],[],[3,4],[0,1,2,3,4,5],[0,1,2,3,4,5,6],[0,1,2,3,4,5,6,7]]) [jf 16 0 3,jk 17 16,jm 18 4,jm 19 0,jq 20 (.bslr 1 [(.k (V.i (-1))),(ki 0),(ki 1439),(ki 1440)]),jq 21 (.callm 84 true 19 [20]),ja 22 6 17 18,jf 23 2 22,jp (.st 1 23 21)] [2,3]) (js [jb 25 .eql .i 13 (ki 1),jm 24 25] [0,2,3,4,13,24] (.cond 24 (.reg (some [[],[0],[],[],[],[3,4],[0,1,2,3,4,5],[0,1,2,3,4,5,6],[0,1,2,3,4,5,6,7]]) [jf 26 0 3,jk 27 26,jm 28 4,jm 29 0,jq 30 (.bslr 1 [(ki 0),(ki 1),(ki 4320),(ki 4321)]),jq 31 (.callm 84 true 29 [30]),ja 32 6 27 28,jf 33 3 32,jp (.st 1 33 31)] [2,3]) (js [jb 35 .eql .i 13 (ki 2),jm 34 35] [0,2,3,4,13,34] (.cond 34 (.reg (some [[],[0],[],[],[],[3,4],[0,1,2,3,4,5],[0,1,2,3,4,5,6],[0,1,2,3,4,5,6,7]]) [jf 36 0 3,jk 37 36,jm 38 4,jm 39 0,jq 40 (.bslr 1 [(ki 0),(ki 127),(ki 128),(.k (V.i (-1)))]),jq 41 (.callm 84 true 39 [40]),ja 42 6 37 38,jf 43 4 42,jp (.st 1 43 41)] [2,3]) (js [jb 45 .eql .i 13 (ki 3),jm 44 45] [0,2,3,4,13,44] (.cond 44 (.reg (some [[],[0],[],[],[2,3],[2,3,4],[0,1,2,3,4,5],[0,1,2,3,4,5,6],[0,1,2,3,4,5,6,7]]) [jf 46 1 3,jk 47 46,jm 48 0,jq 49 (.bslr 1 [(ki 0),(ki 60),(ki 61),(.k (V.i (-1)))]),jq 50 (.callm 84 true 48 [49]),jq 51 (.bsl 1 [50]),jq 52 (.app 1 8 true 47 51),jf 53 1 3,jp (.st 1 53 52)] [2,3]) (js [jb 55 .eql .i 13 (ki 4),jm 54 55] [0,2,3,4,13,54] (.cond 54 (.reg none [jm 56 0,jq 57 (.bslr 1 [(.k (V.i (-1))),(ki 240),(ki 241)]),jq 58 (.callm 84 true 56 [57]),jf 59 2 3,jp (.st 1 59 58)] [2,3]) (js [jb 61 .eql .i 13 (ki 5),jm 60 61] [0,2,3,4,13,60] (.cond 60 (.reg (some [[],[0],[],[],[3],[],[3,4,5],[3,4,5,6],[3,4,5,6,7],[0,1,2,3,4,5,6,7,8],[0,1,2,3,4,5,6,7,8,9],[0,1,2,3,4,5,6,7,8,9,10]]) [jf 62 0 3,jk 63 62,jm 64 4,jf 65 0 3,jk 66 65,jm 67 4,ja 68 6 66 67,jf 69 0 68,jk 70 69,ja 71 6 63 64,jf 72 1 71,jp (.st 1 72 70)] [2,3]) (js [jb 74 .eql .i 13 (ki 6),jm 73 74] [0,2,3,4,73] (.cond 73 (.seq (.bl 1 (.seq (js [jf 75 0 3,jk 76 75,jq 77 (.len false 76),jb 78 .lss .i 77 (ki 21)] [0,2,3,4,78] (.cond 78 .skip (.exit 1))) (.block 2 (.reg (some [[],[0],[],[2],[],[2,3,4],[2,3,4,5],[2,3,4,5,6],[0,1,2,3,4,5,6,7],[0,1,2,3,4,5,6,7,8],[0,1,2,3,4,5,6,7,8,9]]) [jf 79 0 3,jk 80 79,jf 81 0 3,jk 82 81,jm 83 4,ja 84 6 82 83,jl 85 6 84,jq 86 (.bsl 6 [85]),jq
 87 (.app 6 64 true 80 86),jf 88 0 3,jp (.st 1 88 87)] [0,2,3,4])))) (.reg (some [[],[0],[],[],[2,3],[0,1,2,3,4],[0,1,2,3,4,5],[0,1,2,3,4,5,6]]) [jf 89 0 3,jk 90 89,jm 91 0,jq 92 (.bslr 1 [(ki 20),(ki 21)]),jq 93 (.callm 84 true 91 [92]),jq 94 (.cut 6 90 93),jf 95 0 3,jp (.st 1 95 94)] [2,3])) .skip)))))))))))))))) (js [jl 96 3 3,jp (.st 3 2 96)] [2] .ret))))
def rv80:List RV:=[.c 2 true 3]
def d7 (g:G) (t:TE) (x2:Int×Cur):Nat→List Leg→Option (List Leg)
 |0,_=>none
 |n1+1,w1=>
  br (g.lt (g.int (g.dlen (t.d_Leg w1))) 21)
  (
   gd (((0:Int)≤x2.1∧x2.1<(((g.dlen (t.d_Leg w1)):Nat):Int)))<|
   gt w1 (g.nat x2.1) fun x13=>
   lP ([x13]) fun(l12:List Leg)=>
   gd (((w1.length+l12.length)*64≤70368744177664))<|
   lP (w1++l12) fun(l13:List Leg)=>
   d7 g t x2 n1 l13)
  (
   some w1)
def lj (g:G) (t:TE) (a0:Cur):Option (Network×Cur):=
 cl (gG g t a0 6) fun x1=>
 cl (aF g t (Cur.mk x1.2.b x1.2.i x1.2.h) (g.int (g.dlen (t.d_Leg x1.1.Legs)))) fun x2=>
 cl (aF g t (Cur.mk x2.2.b x2.2.i x2.2.h) 10) fun x3=>
 br (g.eq x3.1 0)
 (
  lP ([(-1),0,1439,1440]) fun(l1:List Int)=>
  cl (bS g t (Cur.mk x3.2.b x3.2.i x3.2.h) l1) fun x4=>
  gd (((0:Int)≤x2.1∧x2.1<(((g.dlen (t.d_Leg x1.1.Legs)):Nat):Int)))<|
  gt x1.1.Legs (g.nat x2.1) fun x5=>
  lP (List.set x1.1.Legs (g.nat x2.1) (Leg.mk x5.From x5.To x4.1 x5.Takes x5.Days x5.Room)) fun(l2:List Leg)=>
  some (((Network.mk l2 x1.1.Off x1.1.Change),(Cur.mk x4.2.b x4.2.i x4.2.h))))
 (
  br (g.eq x3.1 1)
  (
   lP ([0,1,4320,4321]) fun(l3:List Int)=>
   cl (bS g t (Cur.mk x3.2.b x3.2.i x3.2.h) l3) fun x6=>
   gd (((0:Int)≤x2.1∧x2.1<(((g.dlen (t.d_Leg x1.1.Legs)):Nat):Int)))<|
   gt x1.1.Legs (g.nat x2.1) fun x7=>
   lP (List.set x1.1.Legs (g.nat x2.1) (Leg.mk x7.From x7.To x7.Start x6.1 x7.Days x7.Room)) fun(l4:List Leg)=>
   some (((Network.mk l4 x1.1.Off x1.1.Change),(Cur.mk x6.2.b x6.2.i x6.2.h))))
  (
   br (g.eq x3.1 2)
   (
    lP ([0,127,128,(-1)]) fun(l5:List Int)=>
    cl (bS g t (Cur.mk x3.2.b x3.2.i x3.2.h) l5) fun x8=>
    gd (((0:Int)≤x2.1∧x2.1<(((g.dlen (t.d_Leg x1.1.Legs)):Nat):Int)))<|
    gt x1.1.Legs (g.nat x2.1) fun x9=>
    lP (List.set x1.1.Legs (g.nat x2.1) (Leg.mk x9.From x9.To x9.Start x9.Takes x8.1 x9.Room)) fun(l6:List Leg)=>
    some (((Network.mk l6 x1.1.Off x1.1.Change),(Cur.mk x8.2.b x8.2.i x8.2.h))))
   (
    br (g.eq x3.1 3)
    (
     lP ([0,60,61,(-1)]) fun(l7:List Int)=>
     cl (bS g t (Cur.mk x3.2.b x3.2.i x3.2.h) l7) fun x10=>
     lP ([x10.1]) fun(l8:List Int)=>
     gd (((x1.1.Off.length+l8.length)*8≤70368744177664))<|
     lP (x1.1.Off++l8) fun(l9:List Int)=>
     some (((Network.mk x1.1.Legs l9 x1.1.Change),(Cur.mk x10.2.b x10.2.i x10.2.h))))
    (
     br (g.eq x3.1 4)
     (
      lP ([(-1),240,241]) fun(l10:List Int)=>
      cl (bS g t (Cur.mk x3.2.b x3.2.i x3.2.h) l10) fun x11=>
      some (((Network.mk x1.1.Legs x1.1.Off x11.1),(Cur.mk x11.2.b x11.2.i x11.2.h))))
     (
      br (g.eq x3.1 5)
      (
       gd (((0:Int)≤x2.1∧x2.1<(((g.dlen (t.d_Leg x1.1.Legs)):Nat):Int)))<|
       gt x1.1.Legs (g.nat x2.1) fun x12=>
       gd (((0:Int)≤x2.1∧x2.1<(((g.dlen (t.d_Leg x1.1.Legs)):Nat):Int)))<|
       lP (List.set x1.1.Legs (g.nat x2.1) (Leg.mk x12.From x12.From x12.Start x12.Takes x12.Days x12.Room)) fun(l11:List Leg)=>
       some (((Network.mk l11 x1.1.Off x1.1.Change),(Cur.mk x3.2.b x3.2.i x3.2.h))))
      (
       br (g.eq x3.1 6)
       (
        cl (d7 g t x2 1000000000 x1.1.Legs) fun y1=>
        lP ([20,21]) fun(l14:List Int)=>
        cl (bS g t (Cur.mk x3.2.b x3.2.i x3.2.h) l14) fun x14=>
        gd (((0:Int)≤x14.1∧x14.1≤(((g.dlen (t.d_Leg y1)):Nat):Int)))<|
        lP (List.take (g.nat x14.1) (List.drop 0 y1)) fun(l15:List Leg)=>
        some (((Network.mk l15 x1.1.Off x1.1.Change),(Cur.mk x14.2.b x14.2.i x14.2.h))))
       (
        some (((Network.mk x1.1.Legs x1.1.Off x1.1.Change),(Cur.mk x3.2.b x3.2.i x3.2.h))))))))))
theorem uZ {g:G} {t:TE} {a0:Cur} {r:Network×Cur} (hg:g=G.real) (ht:t=TE.real) (h:lj g t a0=some r):FnM Tryz.prog 80 (.p (Cur.ds t a0)) [] (.g (Network.ds t r.1)) (.p (Cur.ds t r.2)):=by
 obtain⟨X,hX⟩:=au (.g (Network.ds t r.1):X);obtain⟨Y,hY⟩:=au (.p (Cur.ds t r.2):AM);rw[←hX,←hY];refine dY (rvs:=rv80) (j:=ir80) Tryz.func80 rfl (by kernel_rfl) (nb rfl) (by kernel_rfl) ac ?_;intro g2 F hg2 hF;obtain rfl:g2=g:=hg2.unique.trans hg.symm;clear hg2;obtain⟨_,lt,_,eq,_,_,_,_,_,_,_,_,int,_,_,_,_,_,_,_,_,_,_,_,dlen⟩:=g2;obtain⟨r_U8,_,_,d_Leg,r_I64,d_I64⟩:=t
 obtain⟨a0_b,a0_i,a0_h⟩:=a0;unfold lj at h;try dsimp only at h
 cbv;obtain⟨x1,hx1,h⟩:=ae h;obtain⟨⟨x1_1_Legs,x1_1_Off,x1_1_Change⟩,⟨x1_2_b,x1_2_i,x1_2_h⟩⟩:=x1;try dsimp only at h
 refine ACallM.mk _ _ _ _ rfl rfl (hF _ _ _ (nr hg ht hx1)) rfl (nb rfl) (nb rfl) ?_;cbv;obtain⟨x2,hx2,h⟩:=ae h;obtain⟨x2_1,⟨x2_2_b,x2_2_i,x2_2_h⟩⟩:=x2;try dsimp only at h
 refine ACallM.mk _ _ _ _ rfl rfl (hF _ _ _ (aw hg ht hx2)) rfl (nb rfl) (nb rfl) ?_;cbv;obtain⟨x3,hx3,h⟩:=ae h;obtain⟨x3_1,⟨x3_2_b,x3_2_i,x3_2_h⟩⟩:=x3;try dsimp only at h
 refine ACallM.mk _ _ _ _ rfl rfl (hF _ _ _ (aw hg ht hx3)) rfl (nb rfl) (nb rfl) ?_;cbv
 cases hb1:(eq x3_1 0)
 rotate_left
 ·rw[ab hb1] at h;cbv;obtain⟨l1,hl1,h⟩:=aj h;try dsimp only at h
  refine AVal.mk (r_I64 l1) (by rw[←hl1];exact cf hg ht [(-1),0,1439,1440]) ?_;cbv;obtain⟨x4,hx4,h⟩:=ae h;obtain⟨x4_1,⟨x4_2_b,x4_2_i,x4_2_h⟩⟩:=x4;try dsimp only at h
  refine ACallM.mk _ _ _ _ rfl rfl (hF _ _ _ (bH hg ht hx4)) rfl (nb rfl) (nb rfl) ?_;cbv;obtain⟨hc1,h⟩:=ai h;refine AStep.mk hc1 ?_;cbv;obtain⟨x5,hx5,h⟩:=aP h;obtain⟨x5_From,x5_To,x5_Start,x5_Takes,x5_Days,x5_Room⟩:=x5;try dsimp only at h
  refine AGet.mk _ (dt hg ht hx5) ?_;cbv;obtain⟨l2,hl2,h⟩:=aj h;try dsimp only at h
  refine ANew.mk (d_Leg l2) _ (by rw[←hl2];exact iE hg ht _ _ (Leg.mk x5_From x5_To x4_1 x5_Takes x5_Days x5_Room)) rfl ?_;have hnl2:(dlen (d_Leg x1_1_Legs))=(d_Leg l2).length:=(by rw[←hl2,gO ht];exact(aH hg ht _));cbv;obtain rfl:=Option.some.inj h;exact ARetM.mk ⟨⟨rfl,hnl2⟩,⟨rfl,(bg hg ht _)⟩⟩ hX.symm hY.symm
 rw[aa hb1] at h;cbv
 cases hb2:(eq x3_1 1)
 rotate_left
 ·rw[ab hb2] at h;cbv;obtain⟨l3,hl3,h⟩:=aj h;try dsimp only at h
  refine AVal.mk (r_I64 l3) (by rw[←hl3];exact cf hg ht [0,1,4320,4321]) ?_;cbv;obtain⟨x6,hx6,h⟩:=ae h;obtain⟨x6_1,⟨x6_2_b,x6_2_i,x6_2_h⟩⟩:=x6;try dsimp only at h
  refine ACallM.mk _ _ _ _ rfl rfl (hF _ _ _ (bH hg ht hx6)) rfl (nb rfl) (nb rfl) ?_;cbv;obtain⟨hc2,h⟩:=ai h;refine AStep.mk hc2 ?_;cbv;obtain⟨x7,hx7,h⟩:=aP h;obtain⟨x7_From,x7_To,x7_Start,x7_Takes,x7_Days,x7_Room⟩:=x7;try dsimp only at h
  refine AGet.mk _ (dt hg ht hx7) ?_;cbv;obtain⟨l4,hl4,h⟩:=aj h;try dsimp only at h
  refine ANew.mk (d_Leg l4) _ (by rw[←hl4];exact iE hg ht _ _ (Leg.mk x7_From x7_To x7_Start x6_1 x7_Days x7_Room)) rfl ?_;have hnl4:(dlen (d_Leg x1_1_Legs))=(d_Leg l4).length:=(by rw[←hl4,gO ht];exact(aH hg ht _));cbv;obtain rfl:=Option.some.inj h;exact ARetM.mk ⟨⟨rfl,hnl4⟩,⟨rfl,(bg hg ht _)⟩⟩ hX.symm hY.symm
 rw[aa hb2] at h;cbv
 cases hb3:(eq x3_1 2)
 rotate_left
 ·rw[ab hb3] at h;cbv;obtain⟨l5,hl5,h⟩:=aj h;try dsimp only at h
  refine AVal.mk (r_I64 l5) (by rw[←hl5];exact cf hg ht [0,127,128,(-1)]) ?_;cbv;obtain⟨x8,hx8,h⟩:=ae h;obtain⟨x8_1,⟨x8_2_b,x8_2_i,x8_2_h⟩⟩:=x8;try dsimp only at h
  refine ACallM.mk _ _ _ _ rfl rfl (hF _ _ _ (bH hg ht hx8)) rfl (nb rfl) (nb rfl) ?_;cbv;obtain⟨hc3,h⟩:=ai h;refine AStep.mk hc3 ?_;cbv;obtain⟨x9,hx9,h⟩:=aP h;obtain⟨x9_From,x9_To,x9_Start,x9_Takes,x9_Days,x9_Room⟩:=x9;try dsimp only at h
  refine AGet.mk _ (dt hg ht hx9) ?_;cbv;obtain⟨l6,hl6,h⟩:=aj h;try dsimp only at h
  refine ANew.mk (d_Leg l6) _ (by rw[←hl6];exact iE hg ht _ _ (Leg.mk x9_From x9_To x9_Start x9_Takes x8_1 x9_Room)) rfl ?_;have hnl6:(dlen (d_Leg x1_1_Legs))=(d_Leg l6).length:=(by rw[←hl6,gO ht];exact(aH hg ht _));cbv;obtain rfl:=Option.some.inj h;exact ARetM.mk ⟨⟨rfl,hnl6⟩,⟨rfl,(bg hg ht _)⟩⟩ hX.symm hY.symm
 rw[aa hb3] at h;cbv
 cases hb4:(eq x3_1 3)
 rotate_left
 ·rw[ab hb4] at h;cbv;obtain⟨l7,hl7,h⟩:=aj h;try dsimp only at h
  refine AVal.mk (r_I64 l7) (by rw[←hl7];exact cf hg ht [0,60,61,(-1)]) ?_;cbv;obtain⟨x10,hx10,h⟩:=ae h;obtain⟨x10_1,⟨x10_2_b,x10_2_i,x10_2_h⟩⟩:=x10;try dsimp only at h
  refine ACallM.mk _ _ _ _ rfl rfl (hF _ _ _ (bH hg ht hx10)) rfl (nb rfl) (nb rfl) ?_;cbv;obtain⟨l8,hl8,h⟩:=aj h;try dsimp only at h
  refine ANew.mk (d_I64 l8) (dlen (d_I64 l8)) (by rw[←hl8];exact rb hg ht [x10_1]) (by rw[←hl8];exact rB hg ht [x10_1]) ?_;cbv;obtain⟨hc4,h⟩:=ai h;refine AStep.mk ⟨⟨rfl,(bg hg ht _)⟩,(tw hg ht (bg hg ht _) rfl hc4)⟩ ?_;cbv;obtain⟨l9,hl9,h⟩:=aj h;try dsimp only at h
  refine ANew.mk (d_I64 l9) (dlen (d_I64 l9)) (by rw[←hl9];exact zm hg ht (bg hg ht _) rfl) (by rw[←hl9];exact wZ hg ht (bg hg ht _) rfl) ?_;cbv;obtain rfl:=Option.some.inj h;exact ARetM.mk ⟨⟨rfl,(aH hg ht _)⟩,⟨rfl,(bg hg ht _)⟩⟩ hX.symm hY.symm
 rw[aa hb4] at h;cbv
 cases hb5:(eq x3_1 4)
 rotate_left
 ·rw[ab hb5] at h;cbv;obtain⟨l10,hl10,h⟩:=aj h;try dsimp only at h
  refine AVal.mk (r_I64 l10) (by rw[←hl10];exact cf hg ht [(-1),240,241]) ?_;cbv;obtain⟨x11,hx11,h⟩:=ae h;obtain⟨x11_1,⟨x11_2_b,x11_2_i,x11_2_h⟩⟩:=x11;try dsimp only at h
  refine ACallM.mk _ _ _ _ rfl rfl (hF _ _ _ (bH hg ht hx11)) rfl (nb rfl) (nb rfl) ?_;cbv;obtain rfl:=Option.some.inj h;exact ARetM.mk ⟨⟨rfl,(aH hg ht _)⟩,⟨rfl,(bg hg ht _)⟩⟩ hX.symm hY.symm
 rw[aa hb5] at h;cbv
 cases hb6:(eq x3_1 5)
 rotate_left
 ·rw[ab hb6] at h;cbv;obtain⟨hc5,h⟩:=ai h;refine AStep.mk hc5 ?_;cbv;obtain⟨x12,hx12,h⟩:=aP h;obtain⟨x12_From,x12_To,x12_Start,x12_Takes,x12_Days,x12_Room⟩:=x12;try dsimp only at h
  refine AGet.mk _ (dt hg ht hx12) ?_;cbv;obtain⟨hc6,h⟩:=ai h;refine AStep.mk hc6 ?_;cbv;refine AGet.mk _ (dt hg ht hx12) ?_;cbv;obtain⟨l11,hl11,h⟩:=aj h;try dsimp only at h
  refine ANew.mk (d_Leg l11) _ (by rw[←hl11];exact iE hg ht _ _ (Leg.mk x12_From x12_From x12_Start x12_Takes x12_Days x12_Room)) rfl ?_;have hnl11:(dlen (d_Leg x1_1_Legs))=(d_Leg l11).length:=(by rw[←hl11,gO ht];exact(aH hg ht _));cbv;obtain rfl:=Option.some.inj h;exact ARetM.mk ⟨⟨rfl,hnl11⟩,⟨rfl,(bg hg ht _)⟩⟩ hX.symm hY.symm
 rw[aa hb6] at h;cbv
 cases hb7:(eq x3_1 6)
 ·rw[aa hb7] at h;cbv;obtain rfl:=Option.some.inj h;exact ARetM.mk ⟨⟨rfl,(aH hg ht _)⟩,⟨rfl,(bg hg ht _)⟩⟩ hX.symm hY.symm
 rw[ab hb7] at h;cbv;obtain⟨o1,ho1,h⟩:=ae h;try dsimp only at h
 try rw[hg] at ho1
 try rw[ht] at ho1
 refine ABL.mk {p:Nat×List Leg//d7 G.real TE.real (x2_1,(Cur.mk x2_2_b x2_2_i x2_2_h)) p.1 p.2=some o1} (fun⟨⟨n1,w1⟩,_⟩=>({sl:=[(0,.c (.p 3 3 0 0)),(2,.c (.p 0 3 0 0)),(3,.c (.p 1 3 0 0)),(4,.c (.r (.v (.int .i64 x2_1))))],tab:=[(0,some (.foc 3 [] [.n 6,.n 1,.r (.v (.int .i64 0))] [])),(1,some (.foc 3 [] [.f 2 6 0 (dlen (d_Leg w1)),.f 4 1 0 (dlen (d_I64 x1_1_Off)),.r (.v (.int .i64 x1_1_Change))] [])),(2,some (.arr 6 (d_Leg w1))),(3,some (.foc 3 [] [.r (.s 1 (r_U8 x3_2_b)),.r (.v (.int .i64 x3_2_i)),.r (.v (.int .i64 x3_2_h))] [])),(4,some (.arr 1 (d_I64 x1_1_Off)))]}:St)) 5 (fun p=>p.1.1) ⟨(1000000000,x1_1_Legs),ho1⟩ (List Leg) (fun y1=>({sl:=[(0,.c (.p 3 3 0 0)),(2,.c (.p 0 3 0 0)),(3,.c (.p 1 3 0 0))],tab:=[(0,some (.foc 3 [] [.n 6,.n 1,.r (.v (.int .i64 0))] [])),(1,some (.foc 3 [] [.f 2 6 0 (dlen (d_Leg y1)),.f 4 1 0 (dlen (d_I64 x1_1_Off)),.r (.v (.int .i64 x1_1_Change))] [])),(2,some (.arr 6 (d_Leg y1))),(3,some (.foc 3 [] [.r (.s 1 (r_U8 x3_2_b)),.r (.v (.int .i64 x3_2_i)),.r (.v (.int .i64 x3_2_h))] [])),(4,some (.arr 1 (d_I64 x1_1_Off)))]}:St)) 5 (fun y=>o1=y) ?_ ?_ ?_
 ·refine Wk.of [(0,some 4),(1,some 52),(2,some 36),(3,some 3),(4,some 37)] rfl rfl ?_ ?_
  ·cbv;all_goals exact⟨⟨_,rfl,rfl⟩,⟨_,rfl,rfl⟩,⟨_,rfl,rfl⟩,⟨_,rfl,rfl⟩,trivial⟩
  cbv;all_goals exact⟨⟨_,rfl,_,rfl,rfl,rfl,rfl,trivial⟩,⟨_,rfl,_,rfl,rfl,rfl,rfl,trivial⟩,⟨_,rfl,rfl⟩,⟨_,rfl,_,rfl,rfl,rfl,rfl,trivial⟩,⟨_,rfl,rfl⟩,trivial⟩
 ·rintro⟨⟨n1,w1⟩,h_1⟩ hq1;try dsimp only at h_1
  clear hq1;rcases n1 with _|n1
  ·rw[d7] at h_1;cases h_1
  rw[d7] at h_1;try rw[←hg] at h_1
  try rw[←ht] at h_1
  try dsimp only at h_1
  cbv
  cases hb8:(lt (int (dlen (d_Leg w1))) 21)
  ·rw[aa hb8] at h_1;cbv;refine⟨w1,Wk.of [(0,some 0),(1,some 1),(2,some 2),(3,some 3),(4,some 4)] rfl rfl ?_ ?_,(Option.some.inj h_1).symm⟩
   ·cbv;all_goals exact⟨⟨_,rfl,rfl⟩,⟨_,rfl,rfl⟩,⟨_,rfl,rfl⟩,trivial⟩
   cbv;all_goals exact⟨⟨_,rfl,_,rfl,rfl,rfl,rfl,trivial⟩,⟨_,rfl,_,rfl,rfl,rfl,rfl,trivial⟩,⟨_,rfl,rfl⟩,⟨_,rfl,_,rfl,rfl,rfl,rfl,trivial⟩,⟨_,rfl,rfl⟩,trivial⟩
  rw[ab hb8] at h_1;cbv;obtain⟨hc7,h_1⟩:=ai h_1;refine AStep.mk hc7 ?_;cbv;obtain⟨x13,hx13,h_1⟩:=aP h_1;obtain⟨x13_From,x13_To,x13_Start,x13_Takes,x13_Days,x13_Room⟩:=x13;try dsimp only at h_1
  refine AGet.mk _ (dt hg ht hx13) ?_;cbv;obtain⟨l12,hl12,h_1⟩:=aj h_1;try dsimp only at h_1
  refine ANew.mk (d_Leg l12) (dlen (d_Leg l12)) (by rw[←hl12];exact qQ hg ht [(Leg.mk x13_From x13_To x13_Start x13_Takes x13_Days x13_Room)]) (by rw[←hl12];exact nu hg ht [(Leg.mk x13_From x13_To x13_Start x13_Takes x13_Days x13_Room)]) ?_;cbv;obtain⟨hc8,h_1⟩:=ai h_1;refine AStep.mk ⟨⟨rfl,(aH hg ht _)⟩,(jQ hg ht (aH hg ht _) rfl hc8)⟩ ?_;cbv;obtain⟨l13,hl13,h_1⟩:=aj h_1;try dsimp only at h_1
  refine ANew.mk (d_Leg l13) (dlen (d_Leg l13)) (by rw[←hl13];exact qV hg ht (aH hg ht _) rfl) (by rw[←hl13];exact oV hg ht (aH hg ht _) rfl) ?_;cbv;try rw[hg] at h_1
  try rw[ht] at h_1
  refine⟨⟨(n1,l13),h_1⟩,Wk.of [(0,some 0),(1,some 1),(2,some 197),(3,some 3),(4,some 4)] rfl rfl ?_ ?_,Nat.lt_succ_self _⟩
  ·cbv;all_goals exact⟨⟨_,rfl,rfl⟩,⟨_,rfl,rfl⟩,⟨_,rfl,rfl⟩,⟨_,rfl,rfl⟩,trivial⟩
  cbv;all_goals exact⟨⟨_,rfl,_,rfl,rfl,rfl,rfl,trivial⟩,⟨_,rfl,_,rfl,rfl,rfl,rfl,trivial⟩,⟨_,rfl,rfl⟩,⟨_,rfl,_,rfl,rfl,rfl,rfl,trivial⟩,⟨_,rfl,rfl⟩,trivial⟩
 rintro y1 hy1;replace hy1:=hy1.symm;subst hy1;try dsimp only[lr,lrL,lrp,bu] at h
 cbv;obtain⟨l14,hl14,h⟩:=aj h;try dsimp only at h
 refine AVal.mk (r_I64 l14) (by rw[←hl14];exact cf hg ht [20,21]) ?_;cbv;obtain⟨x14,hx14,h⟩:=ae h;obtain⟨x14_1,⟨x14_2_b,x14_2_i,x14_2_h⟩⟩:=x14;try dsimp only at h
 refine ACallM.mk _ _ _ _ rfl rfl (hF _ _ _ (bH hg ht hx14)) rfl (nb rfl) (nb rfl) ?_;cbv;obtain⟨hc9,h⟩:=ai h;refine AStep.mk (AW hg (aH hg ht _) hc9) ?_;cbv;obtain⟨l15,hl15,h⟩:=aj h;try dsimp only at h
 refine ANew.mk (d_Leg l15) (dlen (d_Leg l15)) (by rw[←hl15];exact sn hg ht _ _ _) (by rw[←hl15];exact congrArg _ (sn hg ht _ _ _)) ?_;cbv;obtain rfl:=Option.some.inj h;exact ARetM.mk ⟨⟨rfl,(aH hg ht _)⟩,⟨rfl,(bg hg ht _)⟩⟩ hX.symm hY.symm
def ir61:J:=js [jq 2 (.alloc [.n 6,.n 1,.r (.v (.int .i64 0))])] [0,2] (.seq (js [jm 3 0,jq 4 (.callm 79 true 3 [(ki 12)])] [0,2,4] (.cond 4 (js [jm 5 0,jq 6 (.callm 80 true 5 []),jp (.st 3 2 6)] [2] .ret) .skip)) (js [jm 7 0,jq 8 (.callm 81 true 7 [(ki 6)]),jp (.st 3 2 8)] [2] .ret))
def rv61:List RV:=[.c 2 true 3]
def kx (g:G) (t:TE) (a0:Cur):Option (Network×Cur):=
 cl (cZ g t a0 12) fun x1=>
 br x1.1
 (
  cl (lj g t (Cur.mk x1.2.b x1.2.i x1.2.h)) fun x2=>
  some (((Network.mk x2.1.Legs x2.1.Off x2.1.Change),(Cur.mk x2.2.b x2.2.i x2.2.h))))
 (
  cl (gG g t (Cur.mk x1.2.b x1.2.i x1.2.h) 6) fun x3=>
  some (((Network.mk x3.1.Legs x3.1.Off x3.1.Change),(Cur.mk x3.2.b x3.2.i x3.2.h))))
theorem wn {g:G} {t:TE} {a0:Cur} {r:Network×Cur} (hg:g=G.real) (ht:t=TE.real) (h:kx g t a0=some r):FnM Tryz.prog 61 (.p (Cur.ds t a0)) [] (.g (Network.ds t r.1)) (.p (Cur.ds t r.2)):=by
 obtain⟨X,hX⟩:=au (.g (Network.ds t r.1):X);obtain⟨Y,hY⟩:=au (.p (Cur.ds t r.2):AM);rw[←hX,←hY];refine dY (rvs:=rv61) (j:=ir61) Tryz.func61 rfl (by kernel_rfl) (nb rfl) (by kernel_rfl) ac ?_;intro g2 F hg2 hF;obtain rfl:g2=g:=hg2.unique.trans hg.symm;clear hg2;obtain⟨_⟩:=g2;obtain⟨_⟩:=t
 obtain⟨a0_b,a0_i,a0_h⟩:=a0;unfold kx at h;try dsimp only at h
 cbv;obtain⟨x1,hx1,h⟩:=ae h;obtain⟨x1_1,⟨x1_2_b,x1_2_i,x1_2_h⟩⟩:=x1;try dsimp only at h
 refine ACallM.mk _ _ _ _ rfl rfl (hF _ _ _ (di hg ht hx1)) rfl (nb rfl) (nb rfl) ?_;cbv;have hb1:x1_1=true∨x1_1=false:=by cases x1_1<;>simp
 rcases hb1 with hb1|hb1
 ·rw[ab hb1] at h;have hK_:=h;subst hb1;have h:=hK_;clear hK_;cbv;obtain⟨x2,hx2,h⟩:=ae h;obtain⟨⟨x2_1_Legs,x2_1_Off,x2_1_Change⟩,⟨x2_2_b,x2_2_i,x2_2_h⟩⟩:=x2;try dsimp only at h
  refine ACallM.mk _ _ _ _ rfl rfl (hF _ _ _ (uZ hg ht hx2)) rfl (nb rfl) (nb rfl) ?_;cbv;obtain rfl:=Option.some.inj h;exact ARetM.mk ⟨⟨rfl,(aH hg ht _)⟩,⟨rfl,(bg hg ht _)⟩⟩ hX.symm hY.symm
 rw[aa hb1] at h;have hK_:=h;subst hb1;have h:=hK_;clear hK_;cbv;obtain⟨x3,hx3,h⟩:=ae h;obtain⟨⟨x3_1_Legs,x3_1_Off,x3_1_Change⟩,⟨x3_2_b,x3_2_i,x3_2_h⟩⟩:=x3;try dsimp only at h
 refine ACallM.mk _ _ _ _ rfl rfl (hF _ _ _ (nr hg ht hx3)) rfl (nb rfl) (nb rfl) ?_;cbv;obtain rfl:=Option.some.inj h;exact ARetM.mk ⟨⟨rfl,(aH hg ht _)⟩,⟨rfl,(bg hg ht _)⟩⟩ hX.symm hY.symm
def BR:J:=js [jq 3 (.box 0),jm 6 (ki 0)] [1,2,3] (.seq (js [jm 7 (ki 0)] [1,2,3,7] (.bl 0 (.seq (js [jm 8 7,jb 9 .leq .i 8 (ki 60)] [1,2,3,7,9] (.cond 9 .skip (.exit 0))) (.seq (.block 1 (js [jl 12 3 3,jm 13 1,jm 14 7,jc 15 99 [12,13,14],jm 16 15,ju 17 16 (.ld true 3 3),ju 18 16 (.mv 1),ju 19 16 (.mv 7),ju 20 16 (.bld [.r (.v (.int .i64 0)),.r (.v (.int .i64 0))] [(0,1,18),(1,1,19)]),ju 21 16 (.call 44 true [17,20]),ju 22 16 (.mv 2),ju 23 16 (.bin .geq .i 21 22),jq 24 (.pick 16 23 kf)] [1,2,3,7,24] (.cond 24 (js [jm 25 7,jm 6 25] [6] .ret) .skip))) (.reg none [jm 10 7,jb 11 .add .i 10 (ki 1),jm 7 11] [1,2,3,7]))))) (js [jq 6 (.mv (.k (V.i (-1))))] [6] .ret))
def Bd:List RV:=[.t 6]
def ch (g:G) (t:TE) (a0:Network) (a1:Int) (a2:Int):Nat→Int→Option (LR Int Unit)
 |0,v1=>
  some (LR.out ())
 |n1+1,v1=>
  cl (eZ g t a0 a1 v1) fun x1=>
  br x1
  (
   cl (cA g t a0 (Trip.mk a1 v1)) fun x2=>
   br (g.le a2 x2)
   (
    some (LR.ret v1))
   (
    ch g t a0 a1 a2 n1 (g.wrap .i64 (g.add v1 1))))
  (
   ch g t a0 a1 a2 n1 (g.wrap .i64 (g.add v1 1)))
def iD (g:G) (t:TE) (a0:Network) (a1:Int) (a2:Int):Option Int:=
 cl (ch g t a0 a1 a2 (dn 0 60) 0) fun o1=>lr o1 fun y1=>
 some (-1)
theorem tV {g:G} {t:TE} {a0:Network} {a1:Int} {a2:Int} {r:Int} (hg:g=G.real) (ht:t=TE.real) (h:iD g t a0 a1 a2=some r):Fn Tryz.prog 126 [.g (Network.rs t a0),.c (.v (.int .i64 a1)),.c (.v (.int .i64 a2))] (.c (.r (.v (.int .i64 r)))):=by
 obtain⟨X,hX⟩:=au (.c (.r (.v (.int .i64 r))):X);rw[←hX];refine aq (rvs:=Bd) (j:=BR) Tryz.func126 rfl (by kernel_rfl) (nb rfl) (by kernel_rfl) ac ?_;intro g2 F hg2 hF;obtain rfl:g2=g:=hg2.unique.trans hg.symm;clear hg2;obtain⟨wrap,_,le,_,_,_,_,_,_,_,_,_,_,add⟩:=g2;obtain⟨_,_,r_Leg,_,r_I64⟩:=t;obtain⟨a0_Legs,a0_Off,a0_Change⟩:=a0
 unfold iD at h;try dsimp only at h
 cbv;obtain⟨o1,ho1,h⟩:=ae h;try dsimp only at h
 try rw[hg] at ho1
 try rw[ht] at ho1
 refine ABL.mk {p:Nat×Int//p.1=dn p.2 60∧0≤p.2∧ch G.real TE.real (Network.mk a0_Legs a0_Off a0_Change) a1 a2 p.1 p.2=some o1} (fun⟨⟨n1,v1⟩,_⟩=>({sl:=[(1,.c (.r (.v (.int .i64 a1)))),(2,.c (.r (.v (.int .i64 a2)))),(3,.c (.p 0 3 0 0)),(7,.c (.r (.v (.int .i64 v1))))],tab:=[(0,some (.foc 3 [] [.r (.s 6 (r_Leg a0_Legs)),.r (.s 1 (r_I64 a0_Off)),.r (.v (.int .i64 a0_Change))] []))]}:St)) 1 (fun p=>p.1.1) ⟨(dn 0 60,0),rfl,Int.le_refl _,ho1⟩ (Unit) (fun _=>({sl:=[],tab:=[]}:St)) 0 (fun y=>o1=LR.out y) ?_ ?_ ?_
 ·refine Wk.of [(0,some 0)] rfl rfl ?_ ?_
  ·cbv;all_goals exact⟨⟨_,rfl,rfl⟩,⟨_,rfl,rfl⟩,⟨_,rfl,rfl⟩,⟨_,rfl,rfl⟩,trivial⟩
  cbv;all_goals exact⟨⟨_,rfl,_,rfl,rfl,rfl,rfl,trivial⟩,trivial⟩
 ·rintro⟨⟨n1,v1⟩,hn1,hi1,h_1⟩ hq1;try dsimp only at hn1 hi1 h_1
  clear hq1;cbv;rcases n1 with _|n1
  ·have hb1:le v1 60=false:=ln hg hn1;rw[ch] at h_1;try rw[←hg] at h_1
   try rw[←ht] at h_1
   try dsimp only at h_1
   rw[hb1];cbv;refine⟨(),Wk.of [] rfl rfl ?_ ?_,(Option.some.inj h_1).symm⟩
   ·cbv;all_goals exact trivial
   cbv;all_goals exact trivial
  have hb1:le v1 60=true:=nF hg hn1;have hl1:=tx hn1;have hs1:=qq hg hn1 hi1 (by decide) (by decide);rw[ch] at h_1;try rw[←hg] at h_1
  try rw[←ht] at h_1
  try dsimp only at h_1
  rw[hb1];cbv;obtain⟨x1,hx1,h_1⟩:=ae h_1;try dsimp only at h_1
  refine ACall.mk _ _ rfl (hF _ _ _ (nk hg ht hx1)) (.inl rfl) (nb rfl) ?_;cbv
  cases hb2:x1
  ·rw[aa hb2] at h_1;cbv;iterate 7 try(rw[hb2];cbv)
   try rw[hg] at h_1
   try rw[ht] at h_1
   refine⟨⟨(n1,(wrap .i64 (add v1 1))),hs1.1,hs1.2,h_1⟩,Wk.of [(0,some 0)] rfl rfl ?_ ?_,Nat.lt_succ_self _⟩
   ·cbv;all_goals exact⟨⟨_,rfl,rfl⟩,⟨_,rfl,rfl⟩,⟨_,rfl,rfl⟩,⟨_,rfl,rfl⟩,trivial⟩
   cbv;all_goals exact⟨⟨_,rfl,_,rfl,rfl,rfl,rfl,trivial⟩,trivial⟩
  rw[ab hb2] at h_1;cbv;iterate 4 try(rw[hb2];cbv)
  obtain⟨x2,hx2,h_1⟩:=ae h_1;try dsimp only at h_1
  refine ACall.mk _ _ rfl (hF _ _ _ (fy hg ht hx2)) (.inl rfl) (nb rfl) ?_;cbv;iterate 3 try(rw[hb2];cbv)
  cases hb3:(le a2 x2)
  rotate_left
  ·rw[ab hb3] at h_1;cbv;obtain rfl:=Option.some.inj h_1;try dsimp only[lr,lrL,lrp,bu] at h
   obtain rfl:=Option.some.inj h;exact ARet.mk trivial hX.symm
  rw[aa hb3] at h_1;cbv;try rw[hg] at h_1
  try rw[ht] at h_1
  refine⟨⟨(n1,(wrap .i64 (add v1 1))),hs1.1,hs1.2,h_1⟩,Wk.of [(0,some 0)] rfl rfl ?_ ?_,Nat.lt_succ_self _⟩
  ·cbv;all_goals exact⟨⟨_,rfl,rfl⟩,⟨_,rfl,rfl⟩,⟨_,rfl,rfl⟩,⟨_,rfl,rfl⟩,trivial⟩
  cbv;all_goals exact⟨⟨_,rfl,_,rfl,rfl,rfl,rfl,trivial⟩,trivial⟩
 rintro _ hy1;replace hy1:=hy1.symm;subst hy1;try dsimp only[lr,lrL,lrp,bu] at h
 cbv;obtain rfl:=Option.some.inj h;exact ARet.mk trivial hX.symm
def Bb:J:=js [jq 3 (.box 1),jq 4 (.alloc [.r (.v (.int .i64 0)),.r (.v (.int .i64 0))])] [0,3,4] (js [jm 7 0,jf 8 0 3,jk 9 8,jq 10 (.len false 9),jq 11 (.callm 83 true 7 [10]),jm 12 0,jq 13 (.callm 83 true 12 [(ki 10)]),jq 14 (.bld [.r (.v (.int .i64 0)),.r (.v (.int .i64 0))] [(0,1,11),(1,1,13)]),jq 5 (.alloc [.r (.v (.int .i64 0)),.r (.v (.int .i64 0))]),jp (.st 2 5 14)] [0,3,4,5] (js [jl 15 3 3,jf 16 0 5,jk 17 16,jf 18 1 5,jk 19 18,jb 20 .mul .i 19 (ki 1440),jc 21 126 [15,17,20],jm 6 21] [0,4,5,6] (.seq (js [jm 22 6,jb 23 .geq .i 22 (ki 0),jm 24 23,ju 25 24 (.mv 0),ju 26 24 (.callm 79 true 25 [(ki 4)]),ju 27 24 (.not 26),jq 28 (.pick 24 27 kf)] [4,5,6,28] (.cond 28 (.reg none [jm 29 6,jf 30 1 5,jp (.st 1 30 29)] [4,5]) .skip)) (js [jl 31 2 5,jp (.st 2 4 31)] [4] .ret))))
def Bz:List RV:=[.c 4 true 2]
def i7 (g:G) (t:TE) (a0:Cur) (a1:Network):Option (Trip×Cur):=
 cl (aF g t a0 (g.llen (t.r_Leg a1.Legs))) fun x1=>
 cl (aF g t (Cur.mk x1.2.b x1.2.i x1.2.h) 10) fun x2=>
 cl (iD g t a1 x1.1 (g.wrap .i64 (g.mul x2.1 1440))) fun x3=>
 br (g.le 0 x3)
 (
  cl (cZ g t (Cur.mk x2.2.b x2.2.i x2.2.h) 4) fun x4=>
  br x4.1
  (
   some (((Trip.mk x1.1 x2.1),(Cur.mk x4.2.b x4.2.i x4.2.h))))
  (
   some (((Trip.mk x1.1 x3),(Cur.mk x4.2.b x4.2.i x4.2.h)))))
 (
  some (((Trip.mk x1.1 x2.1),(Cur.mk x2.2.b x2.2.i x2.2.h))))
theorem tS {g:G} {t:TE} {a0:Cur} {a1:Network} {r:Trip×Cur} (hg:g=G.real) (ht:t=TE.real) (h:i7 g t a0 a1=some r):FnM Tryz.prog 102 (.p (Cur.ds t a0)) [.g (Network.rs t a1)] (.g (Trip.ds t r.1)) (.p (Cur.ds t r.2)):=by
 obtain⟨X,hX⟩:=au (.g (Trip.ds t r.1):X);obtain⟨Y,hY⟩:=au (.p (Cur.ds t r.2):AM);rw[←hX,←hY];refine dY (rvs:=Bz) (j:=Bb) Tryz.func102 rfl (by kernel_rfl) (nb rfl) (by kernel_rfl) ac ?_;intro g2 F hg2 hF;obtain rfl:g2=g:=hg2.unique.trans hg.symm;clear hg2;obtain⟨_,_,le⟩:=g2;obtain⟨_⟩:=t
 obtain⟨a0_b,a0_i,a0_h⟩:=a0;obtain⟨a1_Legs,a1_Off,a1_Change⟩:=a1;unfold i7 at h;try dsimp only at h
 cbv;obtain⟨x1,hx1,h⟩:=ae h;obtain⟨x1_1,⟨x1_2_b,x1_2_i,x1_2_h⟩⟩:=x1;try dsimp only at h
 refine ACallM.mk _ _ _ _ rfl rfl (hF _ _ _ (aw hg ht hx1)) rfl (nb rfl) (nb rfl) ?_;cbv;obtain⟨x2,hx2,h⟩:=ae h;obtain⟨x2_1,⟨x2_2_b,x2_2_i,x2_2_h⟩⟩:=x2;try dsimp only at h
 refine ACallM.mk _ _ _ _ rfl rfl (hF _ _ _ (aw hg ht hx2)) rfl (nb rfl) (nb rfl) ?_;cbv;obtain⟨x3,hx3,h⟩:=ae h;try dsimp only at h
 refine ACall.mk _ _ rfl (hF _ _ _ (tV hg ht hx3)) (.inl rfl) (nb rfl) ?_;cbv
 cases hb1:(le 0 x3)
 ·rw[aa hb1] at h;cbv;iterate 3 try(rw[hb1];cbv)
  obtain rfl:=Option.some.inj h;exact ARetM.mk trivial hX.symm hY.symm
 rw[ab hb1] at h;cbv;try(rw[hb1];cbv)
 obtain⟨x4,hx4,h⟩:=ae h;obtain⟨x4_1,⟨x4_2_b,x4_2_i,x4_2_h⟩⟩:=x4;try dsimp only at h
 refine ACallM.mk _ _ _ _ rfl rfl (hF _ _ _ (di hg ht hx4)) rfl (nb rfl) (nb rfl) ?_;cbv;iterate 2 try(rw[hb1];cbv)
 have hb2:x4_1=true∨x4_1=false:=by cases x4_1<;>simp
 rcases hb2 with hb2|hb2
 ·rw[ab hb2] at h;have hK_:=h;subst hb2;have h:=hK_;clear hK_;cbv;obtain rfl:=Option.some.inj h;exact ARetM.mk trivial hX.symm hY.symm
 rw[aa hb2] at h;have hK_:=h;subst hb2;have h:=hK_;clear hK_;cbv;obtain rfl:=Option.some.inj h;exact ARetM.mk trivial hX.symm hY.symm
def BP (s_k0:ByteArray):J:=js [jq 3 (.box 1),jq 4 (.mv (.k (.c (.r (.v (.string s_k0))))))] [0,3] (js [jl 6 3 3,jc 7 16 [6],jm 5 7] [0,5] (.seq (js [jm 8 0,jq 9 (.callm 79 true 8 [(ki 9)])] [0,5,9] (.cond 9 (js [jm 10 0,jq 11 (.callm 125 true 10 []),jm 4 11] [4] .ret) .skip)) (js [jm 12 5,jm 13 0,jm 14 5,jq 15 (.len false 14),jq 16 (.callm 83 true 13 [15]),ja 17 1 12 16,jk 18 17,jm 4 18] [4] .ret)))
def Bu:List RV:=[.t 4]
def lp (g:G) (t:TE) (a0:Cur) (a1:Network):Option (ByteArray×Cur):=
 cl (cX g t a1) fun x1=>
 cl (cZ g t a0 9) fun x2=>
 br x2.1
 (
  cl (eM g t (Cur.mk x2.2.b x2.2.i x2.2.h)) fun x3=>
  some ((x3.1,(Cur.mk x3.2.b x3.2.i x3.2.h))))
 (
  cl (aF g t (Cur.mk x2.2.b x2.2.i x2.2.h) (g.int (g.dlen (t.d_S x1)))) fun x4=>
  gd (((0:Int)≤x4.1∧x4.1<(((g.dlen (t.d_S x1)):Nat):Int)))<|
  gt x1 (g.nat x4.1) fun x5=>
  some ((x5,(Cur.mk x4.2.b x4.2.i x4.2.h))))
theorem sc {g:G} {t:TE} {a0:Cur} {a1:Network} {r:ByteArray×Cur} (hg:g=G.real) (ht:t=TE.real) (h:lp g t a0 a1=some r):FnM Tryz.prog 103 (.p (Cur.ds t a0)) [.g (Network.rs t a1)] (.c (.r (.v (.string r.1)))) (.p (Cur.ds t r.2)):=by
 obtain⟨X,hX⟩:=au (.c (.r (.v (.string r.1))):X);obtain⟨Y,hY⟩:=au (.p (Cur.ds t r.2):AM);rw[←hX,←hY];refine dY (rvs:=Bu) (j:=(BP str_k0)) Tryz.func103 rfl (by kernel_rfl) (nb rfl) (by kernel_rfl) ac ?_;intro g2 F hg2 hF;obtain rfl:g2=g:=hg2.unique.trans hg.symm;clear hg2;obtain⟨_⟩:=g2;obtain⟨_⟩:=t
 obtain⟨a0_b,a0_i,a0_h⟩:=a0;obtain⟨a1_Legs,a1_Off,a1_Change⟩:=a1;unfold lp at h;try dsimp only at h
 obtain⟨s_k0,hs_k0⟩:∃s,str_k0=s:=⟨_,rfl⟩;try rw[hs_k0] at h
 rw[hs_k0];cbv;obtain⟨x1,hx1,h⟩:=ae h;try dsimp only at h
 refine ACall.mk _ _ rfl (hF _ _ _ (eE hg ht hx1)) (.inl rfl) (nb rfl) ?_;cbv;obtain⟨x2,hx2,h⟩:=ae h;obtain⟨x2_1,⟨x2_2_b,x2_2_i,x2_2_h⟩⟩:=x2;try dsimp only at h
 refine ACallM.mk _ _ _ _ rfl rfl (hF _ _ _ (di hg ht hx2)) rfl (nb rfl) (nb rfl) ?_;cbv;have hb1:x2_1=true∨x2_1=false:=by cases x2_1<;>simp
 rcases hb1 with hb1|hb1
 ·rw[ab hb1] at h;have hK_:=h;subst hb1;have h:=hK_;clear hK_;cbv;obtain⟨x3,hx3,h⟩:=ae h;obtain⟨x3_1,⟨x3_2_b,x3_2_i,x3_2_h⟩⟩:=x3;try dsimp only at h
  refine ACallM.mk _ _ _ _ rfl rfl (hF _ _ _ (iR hg ht hx3)) rfl (nb rfl) (nb rfl) ?_;cbv;obtain rfl:=Option.some.inj h;exact ARetM.mk trivial hX.symm hY.symm
 rw[aa hb1] at h;have hK_:=h;subst hb1;have h:=hK_;clear hK_;cbv;obtain⟨x4,hx4,h⟩:=ae h;obtain⟨x4_1,⟨x4_2_b,x4_2_i,x4_2_h⟩⟩:=x4;try dsimp only at h
 refine ACallM.mk _ _ _ _ rfl rfl (hF _ _ _ (aw hg ht hx4)) rfl (nb rfl) (nb rfl) ?_;cbv;obtain⟨hc1,h⟩:=ai h;refine AStep.mk hc1 ?_;cbv;obtain⟨x5,hx5,h⟩:=aP h;try dsimp only at h
 refine AGet.mk _ (a7 hg ht hx5) ?_;cbv;obtain rfl:=Option.some.inj h;exact ARetM.mk trivial hX.symm hY.symm
def BQ:J:=js [jm 4 (ki 0)] [0,1] (.seq (js [jm 5 1,jm 6 0,jb 7 .gtr .i 5 6] [0,1,7] (.cond 7 (js [jm 8 1,jm 4 8] [4] .ret) .skip)) (js [jm 9 0,jm 4 9] [4] .ret))
def Bw:List RV:=[.t 4]
def xO (g:G) (t:TE) (a0:Int) (a1:Int):Int:=
 br (g.lt a0 a1)
 (
  a1)
 (
  a0)
theorem zr {g:G} {t:TE} {a0:Int} {a1:Int} {r:Int} (hg:g=G.real) (ht:t=TE.real) (h:xO g t a0 a1=r):Fn Tryz.prog 127 [.c (.v (.int .i64 a0)),.c (.v (.int .i64 a1))] (.c (.r (.v (.int .i64 r)))):=by
 obtain⟨X,hX⟩:=au (.c (.r (.v (.int .i64 r))):X);rw[←hX];refine aq (rvs:=Bw) (j:=BQ) Tryz.func127 rfl (by kernel_rfl) (nb rfl) (by kernel_rfl) ac ?_;intro g2 F hg2 hF;obtain rfl:g2=g:=hg2.unique.trans hg.symm;clear hg2;obtain⟨_,lt⟩:=g2;obtain⟨_⟩:=t;unfold xO at h;try dsimp only at h
 cbv
 cases hb1:(lt a0 a1)
 rotate_left
 ·rw[ab hb1] at h;cbv;subst h;exact ARet.mk trivial hX.symm
 rw[aa hb1] at h;cbv;subst h;exact ARet.mk trivial hX.symm
def Bp:J:=js [jm 2 (ki 0)] [0] (js [jm 3 0,jc 4 127 [3,(ki 0)],jm 2 4] [2] .ret)
def BA:List RV:=[.t 2]
def kL (g:G) (t:TE) (a0:Int):Int:=
 lP (xO g t a0 0) fun x1=>
 x1
theorem n8 {g:G} {t:TE} {a0:Int} {r:Int} (hg:g=G.real) (ht:t=TE.real) (h:kL g t a0=r):Fn Tryz.prog 104 [.c (.v (.int .i64 a0))] (.c (.r (.v (.int .i64 r)))):=by
 obtain⟨X,hX⟩:=au (.c (.r (.v (.int .i64 r))):X);rw[←hX];refine aq (rvs:=BA) (j:=Bp) Tryz.func104 rfl (by kernel_rfl) (nb rfl) (by kernel_rfl) ac ?_;intro g2 F hg2 hF;obtain rfl:g2=g:=hg2.unique.trans hg.symm;clear hg2;obtain⟨_⟩:=g2;obtain⟨_⟩:=t;unfold kL at h;try dsimp only at h
 cbv;obtain⟨x1,hx1,h⟩:=aj h;try dsimp only at h
 refine ACall.mk _ _ rfl (hF _ _ _ (zr hg ht hx1)) (.inl rfl) (nb rfl) ?_;cbv;subst h;exact ARet.mk trivial hX.symm
def BD:J:=js [jq 2 (.box 0),jq 3 (.box 1),jm 4 (ki 0)] [2,3] (.seq (js [jl 5 3 2,jl 6 2 3,jc 7 43 [5,6],jq 8 (.not 7)] [2,3,8] (.cond 8 (js [jq 4 (.mv (.k (V.i (-1))))] [4] .ret) .skip)) (js [jl 9 3 2,jl 10 2 3,jc 11 44 [9,10],jm 4 11] [4] .ret))
def BN:List RV:=[.t 4]
def gc (g:G) (t:TE) (a0:Network) (a1:Trip):Option Int:=
 cl (ew g t a0 a1) fun x1=>
 br x1
 (
  cl (cA g t a0 a1) fun x2=>
  some x2)
 (
  some (-1))
theorem qH {g:G} {t:TE} {a0:Network} {a1:Trip} {r:Int} (hg:g=G.real) (ht:t=TE.real) (h:gc g t a0 a1=some r):Fn Tryz.prog 105 [.g (Network.rs t a0),.g (Trip.rs t a1)] (.c (.r (.v (.int .i64 r)))):=by
 obtain⟨X,hX⟩:=au (.c (.r (.v (.int .i64 r))):X);rw[←hX];refine aq (rvs:=BN) (j:=BD) Tryz.func105 rfl (by kernel_rfl) (nb rfl) (by kernel_rfl) ac ?_;intro g2 F hg2 hF;obtain rfl:g2=g:=hg2.unique.trans hg.symm;clear hg2;obtain⟨_⟩:=g2;obtain⟨_⟩:=t;obtain⟨a0_Legs,a0_Off,a0_Change⟩:=a0
 obtain⟨a1_Leg,a1_Day⟩:=a1;unfold gc at h;try dsimp only at h
 cbv;obtain⟨x1,hx1,h⟩:=ae h;try dsimp only at h
 refine ACall.mk _ _ rfl (hF _ _ _ (g9 hg ht hx1)) (.inl rfl) (nb rfl) ?_;cbv
 cases hb1:x1
 ·rw[aa hb1] at h;cbv;obtain rfl:=Option.some.inj h;exact ARet.mk trivial hX.symm
 rw[ab hb1] at h;cbv;obtain⟨x2,hx2,h⟩:=ae h;try dsimp only at h
 refine ACall.mk _ _ rfl (hF _ _ _ (fy hg ht hx2)) (.inl rfl) (nb rfl) ?_;cbv;obtain rfl:=Option.some.inj h;exact ARet.mk trivial hX.symm
def Bj:J:=js [jq 2 (.box 0),jq 3 (.box 1),jm 4 (ki 0)] [2,3] (.seq (js [jl 5 3 2,jl 6 2 3,jc 7 43 [5,6],jq 8 (.not 7)] [2,3,8] (.cond 8 (js [jq 4 (.mv (.k (V.i (-1))))] [4] .ret) .skip)) (js [jl 9 3 2,jl 10 2 3,jc 11 45 [9,10],jm 4 11] [4] .ret))
def Bl:List RV:=[.t 4]
def iV (g:G) (t:TE) (a0:Network) (a1:Trip):Option Int:=
 cl (ew g t a0 a1) fun x1=>
 br x1
 (
  cl (fW g t a0 a1) fun x2=>
  some x2)
 (
  some (-1))
theorem td {g:G} {t:TE} {a0:Network} {a1:Trip} {r:Int} (hg:g=G.real) (ht:t=TE.real) (h:iV g t a0 a1=some r):Fn Tryz.prog 106 [.g (Network.rs t a0),.g (Trip.rs t a1)] (.c (.r (.v (.int .i64 r)))):=by
 obtain⟨X,hX⟩:=au (.c (.r (.v (.int .i64 r))):X);rw[←hX];refine aq (rvs:=Bl) (j:=Bj) Tryz.func106 rfl (by kernel_rfl) (nb rfl) (by kernel_rfl) ac ?_;intro g2 F hg2 hF;obtain rfl:g2=g:=hg2.unique.trans hg.symm;clear hg2;obtain⟨_⟩:=g2;obtain⟨_⟩:=t;obtain⟨a0_Legs,a0_Off,a0_Change⟩:=a0
 obtain⟨a1_Leg,a1_Day⟩:=a1;unfold iV at h;try dsimp only at h
 cbv;obtain⟨x1,hx1,h⟩:=ae h;try dsimp only at h
 refine ACall.mk _ _ rfl (hF _ _ _ (g9 hg ht hx1)) (.inl rfl) (nb rfl) ?_;cbv
 cases hb1:x1
 ·rw[aa hb1] at h;cbv;obtain rfl:=Option.some.inj h;exact ARet.mk trivial hX.symm
 rw[ab hb1] at h;cbv;obtain⟨x2,hx2,h⟩:=ae h;try dsimp only at h
 refine ACall.mk _ _ rfl (hF _ _ _ (oD hg ht hx2)) (.inl rfl) (nb rfl) ?_;cbv;obtain rfl:=Option.some.inj h;exact ARet.mk trivial hX.symm
def ir82:J:=js [jq 3 (.box 1),jq 4 (.alloc [.r (.v (.int .i64 0)),.r (.v (.int .i64 0)),.r (.v (.int .i64 0)),.r (.v (.string .empty)),.r (.v (.int .i64 0)),.r (.v (.int .i64 0))])] [0,3,4] (.seq (.reg (some [[],[0],[0,1],[],[0,1,3],[0,1,3,4],[],[0,1,3,4,6],[0,1,3,4,6,7],[],[],[0,1,3,4,6,7,9,10],[0,1,2,3,4,5,6,7,8,9,10,11],[],[0,1,2,3,4,5,6,7,8,9,10,11,12,13]]) [jm 6 0,jq 7 (.callm 83 true 6 [(ki 3)]),jb 8 .add .i (ki 1) 7,jm 9 0,jq 10 (.callm 83 true 9 [(ki 120)]),jb 11 .mul .i (ki 60) 10,jm 12 0,jq 13 (.callm 83 true 12 [(ki 4)]),jb 14 .add .i (ki 1) 13,jm 15 0,jl 16 3 3,jq 17 (.callm 102 true 15 [16]),jq 18 (.bld [.r (.v (.int .i64 0)),.r (.v (.int .i64 0)),.r (.v (.int .i64 0)),.r (.v (.string .empty)),.r (.v (.int .i64 0)),.r (.v (.int .i64 0))] [(0,1,8),(1,1,11),(2,1,14),(4,2,17)]),jq 5 (.alloc [.r (.v (.int .i64 0)),.r (.v (.int .i64 0)),.r (.v (.int .i64 0)),.r (.v (.string .empty)),.r (.v (.int .i64 0)),.r (.v (.int .i64 0))]),jp (.st 6 5 18)] [0,3,4,5]) (.seq (js [jf 19 2 5,jk 20 19] [0,3,4,5,20] (.block 0 (.seq (js [jb 32 .eql .i 20 (ki 1),jm 31 32] [0,3,4,5,20,31] (.cond 31 .skip (.reg none [jb 33 .eql .i 20 (ki 4),jm 31 33] [0,3,4,5,20,31]))) (.cond 31 (js [jq 34 (.bld [.r (.v (.int .i64 0)),.r (.v (.int .i64 0))] []),jf 35 4 5,jp (.st 2 35 34)] [0,3,4,5] (.reg none [jm 36 0,jl 37 3 3,jq 38 (.callm 103 true 36 [37]),jf 39 3 5,jp (.st 1 39 38)] [4,5])) (js [jb 41 .eql .i 20 (ki 3),jm 40 41] [0,3,4,5,40] (.cond 40 (.reg none [jl 42 3 3,jf 43 4 5,jl 44 2 43,jc 45 105 [42,44],jm 46 0,jq 47 (.bslr 1 [(ki 0),(ki 0),(ki 30),(ki 600)]),jq 48 (.callm 84 true 46 [47]),jb 49 .sub .i 45 48,jc 50 104 [49],jf 51 1 5,jp (.st 1 51 50)] [4,5]) (.reg none [jl 21 3 3,jf 22 4 5,jl 23 2 22,jc 24 106 [21,23],jm 25 0,jq 26 (.bslr 1 [(ki 0),(ki 0),(ki 30),(ki 600)]),jq 27 (.callm 84 true 25 [26]),jb 28 .add .i 24 27,jc 29 104 [28],jf 30 1 5,jp (.st 1 30 29)] [4,5]))))))) (js [jl 52 6 5,jp (.st 6 4 52)] [4] .ret)))
def rv82:List RV:=[.c 4 true 6]
def iW (g:G) (t:TE) (a0:Cur) (a1:Network):Option (Scan×Cur):=
 cl (aF g t a0 3) fun x1=>
 cl (aF g t (Cur.mk x1.2.b x1.2.i x1.2.h) 120) fun x2=>
 cl (aF g t (Cur.mk x2.2.b x2.2.i x2.2.h) 4) fun x3=>
 cl (i7 g t (Cur.mk x3.2.b x3.2.i x3.2.h) a1) fun x4=>
 br (g.eq (g.wrap .i64 (g.add 1 x3.1)) 1)
 (
  cl (lp g t (Cur.mk x4.2.b x4.2.i x4.2.h) a1) fun x5=>
  some (((Scan.mk (g.wrap .i64 (g.add 1 x1.1)) (g.wrap .i64 (g.mul 60 x2.1)) (g.wrap .i64 (g.add 1 x3.1)) x5.1 (Trip.mk 0 0)),(Cur.mk x5.2.b x5.2.i x5.2.h))))
 (
  br (g.eq (g.wrap .i64 (g.add 1 x3.1)) 4)
  (
   cl (lp g t (Cur.mk x4.2.b x4.2.i x4.2.h) a1) fun x6=>
   some (((Scan.mk (g.wrap .i64 (g.add 1 x1.1)) (g.wrap .i64 (g.mul 60 x2.1)) (g.wrap .i64 (g.add 1 x3.1)) x6.1 (Trip.mk 0 0)),(Cur.mk x6.2.b x6.2.i x6.2.h))))
  (
   br (g.eq (g.wrap .i64 (g.add 1 x3.1)) 3)
   (
    cl (gc g t a1 (Trip.mk x4.1.Leg x4.1.Day)) fun x7=>
    lP ([0,0,30,600]) fun(l1:List Int)=>
    cl (bS g t (Cur.mk x4.2.b x4.2.i x4.2.h) l1) fun x8=>
    lP (kL g t (g.wrap .i64 (g.sub x7 x8.1))) fun x9=>
    some (((Scan.mk (g.wrap .i64 (g.add 1 x1.1)) x9 (g.wrap .i64 (g.add 1 x3.1)) ByteArray.empty (Trip.mk x4.1.Leg x4.1.Day)),(Cur.mk x8.2.b x8.2.i x8.2.h))))
   (
    cl (iV g t a1 (Trip.mk x4.1.Leg x4.1.Day)) fun x10=>
    lP ([0,0,30,600]) fun(l2:List Int)=>
    cl (bS g t (Cur.mk x4.2.b x4.2.i x4.2.h) l2) fun x11=>
    lP (kL g t (g.wrap .i64 (g.add x10 x11.1))) fun x12=>
    some (((Scan.mk (g.wrap .i64 (g.add 1 x1.1)) x12 (g.wrap .i64 (g.add 1 x3.1)) ByteArray.empty (Trip.mk x4.1.Leg x4.1.Day)),(Cur.mk x11.2.b x11.2.i x11.2.h))))))
theorem tD {g:G} {t:TE} {a0:Cur} {a1:Network} {r:Scan×Cur} (hg:g=G.real) (ht:t=TE.real) (h:iW g t a0 a1=some r):FnM Tryz.prog 82 (.p (Cur.ds t a0)) [.g (Network.rs t a1)] (.g (Scan.ds t r.1)) (.p (Cur.ds t r.2)):=by
 obtain⟨X,hX⟩:=au (.g (Scan.ds t r.1):X);obtain⟨Y,hY⟩:=au (.p (Cur.ds t r.2):AM);rw[←hX,←hY];refine dY (rvs:=rv82) (j:=ir82) Tryz.func82 rfl (by kernel_rfl) (nb rfl) (by kernel_rfl) ac ?_;intro g2 F hg2 hF;obtain rfl:g2=g:=hg2.unique.trans hg.symm;clear hg2;obtain⟨wrap,_,_,eq,_,_,_,_,_,_,_,_,_,add⟩:=g2;obtain⟨_,_,_,_,r_I64⟩:=t
 obtain⟨a0_b,a0_i,a0_h⟩:=a0;obtain⟨a1_Legs,a1_Off,a1_Change⟩:=a1;unfold iW at h;try dsimp only at h
 cbv;obtain⟨x1,hx1,h⟩:=ae h;obtain⟨x1_1,⟨x1_2_b,x1_2_i,x1_2_h⟩⟩:=x1;try dsimp only at h
 refine ACallM.mk _ _ _ _ rfl rfl (hF _ _ _ (aw hg ht hx1)) rfl (nb rfl) (nb rfl) ?_;cbv;obtain⟨x2,hx2,h⟩:=ae h;obtain⟨x2_1,⟨x2_2_b,x2_2_i,x2_2_h⟩⟩:=x2;try dsimp only at h
 refine ACallM.mk _ _ _ _ rfl rfl (hF _ _ _ (aw hg ht hx2)) rfl (nb rfl) (nb rfl) ?_;cbv;obtain⟨x3,hx3,h⟩:=ae h;obtain⟨x3_1,⟨x3_2_b,x3_2_i,x3_2_h⟩⟩:=x3;try dsimp only at h
 refine ACallM.mk _ _ _ _ rfl rfl (hF _ _ _ (aw hg ht hx3)) rfl (nb rfl) (nb rfl) ?_;cbv;obtain⟨x4,hx4,h⟩:=ae h;obtain⟨⟨x4_1_Leg,x4_1_Day⟩,⟨x4_2_b,x4_2_i,x4_2_h⟩⟩:=x4;try dsimp only at h
 refine ACallM.mk _ _ _ _ rfl rfl (hF _ _ _ (tS hg ht hx4)) rfl (nb rfl) (nb rfl) ?_;cbv
 cases hb1:(eq (wrap .i64 (add 1 x3_1)) 1)
 rotate_left
 ·rw[ab hb1] at h;cbv;try(rw[hb1];cbv)
  obtain⟨x5,hx5,h⟩:=ae h;obtain⟨x5_1,⟨x5_2_b,x5_2_i,x5_2_h⟩⟩:=x5;try dsimp only at h
  refine ACallM.mk _ _ _ _ rfl rfl (hF _ _ _ (sc hg ht hx5)) rfl (nb rfl) (nb rfl) ?_;cbv;obtain rfl:=Option.some.inj h;exact ARetM.mk trivial hX.symm hY.symm
 rw[aa hb1] at h;cbv
 cases hb2:(eq (wrap .i64 (add 1 x3_1)) 4)
 rotate_left
 ·rw[ab hb2] at h;cbv;obtain⟨x6,hx6,h⟩:=ae h;obtain⟨x6_1,⟨x6_2_b,x6_2_i,x6_2_h⟩⟩:=x6;try dsimp only at h
  refine ACallM.mk _ _ _ _ rfl rfl (hF _ _ _ (sc hg ht hx6)) rfl (nb rfl) (nb rfl) ?_;cbv;obtain rfl:=Option.some.inj h;exact ARetM.mk trivial hX.symm hY.symm
 rw[aa hb2] at h;cbv
 cases hb3:(eq (wrap .i64 (add 1 x3_1)) 3)
 rotate_left
 ·rw[ab hb3] at h;cbv;obtain⟨x7,hx7,h⟩:=ae h;try dsimp only at h
  refine ACall.mk _ _ rfl (hF _ _ _ (qH hg ht hx7)) (.inl rfl) (nb rfl) ?_;cbv;obtain⟨l1,hl1,h⟩:=aj h;try dsimp only at h
  refine AVal.mk (r_I64 l1) (by rw[←hl1];exact cf hg ht [0,0,30,600]) ?_;cbv;obtain⟨x8,hx8,h⟩:=ae h;obtain⟨x8_1,⟨x8_2_b,x8_2_i,x8_2_h⟩⟩:=x8;try dsimp only at h
  refine ACallM.mk _ _ _ _ rfl rfl (hF _ _ _ (bH hg ht hx8)) rfl (nb rfl) (nb rfl) ?_;cbv;obtain⟨x9,hx9,h⟩:=aj h;try dsimp only at h
  refine ACall.mk _ _ rfl (hF _ _ _ (n8 hg ht hx9)) (.inl rfl) (nb rfl) ?_;cbv;obtain rfl:=Option.some.inj h;exact ARetM.mk trivial hX.symm hY.symm
 rw[aa hb3] at h;cbv;obtain⟨x10,hx10,h⟩:=ae h;try dsimp only at h
 refine ACall.mk _ _ rfl (hF _ _ _ (td hg ht hx10)) (.inl rfl) (nb rfl) ?_;cbv;obtain⟨l2,hl2,h⟩:=aj h;try dsimp only at h
 refine AVal.mk (r_I64 l2) (by rw[←hl2];exact cf hg ht [0,0,30,600]) ?_;cbv;obtain⟨x11,hx11,h⟩:=ae h;obtain⟨x11_1,⟨x11_2_b,x11_2_i,x11_2_h⟩⟩:=x11;try dsimp only at h
 refine ACallM.mk _ _ _ _ rfl rfl (hF _ _ _ (bH hg ht hx11)) rfl (nb rfl) (nb rfl) ?_;cbv;obtain⟨x12,hx12,h⟩:=aj h;try dsimp only at h
 refine ACall.mk _ _ rfl (hF _ _ _ (n8 hg ht hx12)) (.inl rfl) (nb rfl) ?_;cbv;obtain rfl:=Option.some.inj h;exact ARetM.mk trivial hX.symm hY.symm
def ir85:J:=js [jm 2 (ki 0)] [0] (js [jm 3 0,jq 4 (.bslr 1 [(.k (V.i (-1))),(ki 0),(ki 1),(ki 2),(ki 255),(ki 1440),(ki 86400),(ki 86401),(ki 999999999),(ki 1000000000),(ki 1000000001),(.k (V.i (-1000000001))),(ki 9223372036854775807),(.k (V.i (-9223372036854775808)))]),jq 5 (.callm 84 true 3 [4]),jm 2 5] [2] .ret)
def rv85:List RV:=[.t 2]
def kR (g:G) (t:TE) (a0:Cur):Option (Int×Cur):=
 lP ([(-1),0,1,2,255,1440,86400,86401,999999999,1000000000,1000000001,(-1000000001),9223372036854775807,(-9223372036854775808)]) fun(l1:List Int)=>
 cl (bS g t a0 l1) fun x1=>
 some ((x1.1,(Cur.mk x1.2.b x1.2.i x1.2.h)))
theorem vC {g:G} {t:TE} {a0:Cur} {r:Int×Cur} (hg:g=G.real) (ht:t=TE.real) (h:kR g t a0=some r):FnM Tryz.prog 85 (.p (Cur.ds t a0)) [] (.c (.r (.v (.int .i64 r.1)))) (.p (Cur.ds t r.2)):=by
 obtain⟨X,hX⟩:=au (.c (.r (.v (.int .i64 r.1))):X);obtain⟨Y,hY⟩:=au (.p (Cur.ds t r.2):AM);rw[←hX,←hY];refine dY (rvs:=rv85) (j:=ir85) Tryz.func85 rfl (by kernel_rfl) (nb rfl) (by kernel_rfl) ac ?_;intro g2 F hg2 hF;obtain rfl:g2=g:=hg2.unique.trans hg.symm;clear hg2;obtain⟨_⟩:=g2;obtain⟨_,_,_,_,r_I64⟩:=t
 obtain⟨a0_b,a0_i,a0_h⟩:=a0;unfold kR at h;try dsimp only at h
 cbv;obtain⟨l1,hl1,h⟩:=aj h;try dsimp only at h
 refine AVal.mk (r_I64 l1) (by rw[←hl1];exact cf hg ht [(-1),0,1,2,255,1440,86400,86401,999999999,1000000000,1000000001,(-1000000001),9223372036854775807,(-9223372036854775808)]) ?_;cbv;obtain⟨x1,hx1,h⟩:=ae h;obtain⟨x1_1,⟨x1_2_b,x1_2_i,x1_2_h⟩⟩:=x1;try dsimp only at h
 refine ACallM.mk _ _ _ _ rfl rfl (hF _ _ _ (bH hg ht hx1)) rfl (nb rfl) (nb rfl) ?_;cbv;obtain rfl:=Option.some.inj h;exact ARetM.mk trivial hX.symm hY.symm
def ir62 (s_k0 s_k1 s_k8:ByteArray):J:=js [jq 3 (.box 1),jq 4 (.alloc [.r (.v (.int .i64 0)),.r (.v (.int .i64 0)),.r (.v (.int .i64 0)),.r (.v (.string .empty)),.r (.v (.int .i64 0)),.r (.v (.int .i64 0))])] [0,3,4] (js [jm 6 0,jl 7 3 3,jq 8 (.callm 82 true 6 [7]),jq 5 (.alloc [.r (.v (.int .i64 0)),.r (.v (.int .i64 0)),.r (.v (.int .i64 0)),.r (.v (.string .empty)),.r (.v (.int .i64 0)),.r (.v (.int .i64 0))]),jp (.st 6 5 8)] [0,4,5] (.seq (js [jm 9 0,jq 10 (.callm 83 true 9 [(ki 9)])] [0,4,5,10] (.block 0 (js [jb 12 .eql .i 10 (ki 0),jm 11 12] [0,4,5,10,11] (.cond 11 (.reg none [jm 13 0,jq 14 (.bslr 1 [(ki 0),(ki 9999),(ki 10000)]),jq 15 (.callm 84 true 13 [14]),jf 16 0 5,jp (.st 1 16 15)] [4,5]) (js [jb 18 .eql .i 10 (ki 1),jm 17 18] [0,4,5,10,17] (.cond 17 (.reg none [jm 19 0,jq 20 (.callm 85 true 19 []),jf 21 1 5,jp (.st 1 21 20)] [4,5]) (js [jb 23 .eql .i 10 (ki 2),jm 22 23] [0,4,5,10,22] (.cond 22 (.reg none [jm 24 0,jq 25 (.callm 83 true 24 [(ki 6)]),jf 26 2 5,jp (.st 1 26 25)] [4,5]) (js [jb 28 .eql .i 10 (ki 3),jm 27 28] [0,4,5,10,27] (.cond 27 (.reg none [jm 29 0,jq 30 (.bslr 1 [(.k (.c (.r (.v (.string s_k0))))),(.k (.c (.r (.v (.string s_k1))))),(.k (.c (.r (.v (.string s_k8)))))]),jq 31 (.callm 86 true 29 [30]),jf 32 3 5,jp (.st 1 32 31)] [4,5]) (js [jb 34 .eql .i 10 (ki 4),jm 33 34] [0,4,5,10,33] (.cond 33 (.reg none [jm 35 0,jq 36 (.bslr 1 [(ki 0),(ki 1),(ki 60),(ki 61),(.k (V.i (-1)))]),jq 37 (.callm 84 true 35 [36]),jf 38 4 5,jf 39 1 38,jp (.st 1 39 37)] [4,5]) (js [jb 41 .eql .i 10 (ki 5),jm 40 41] [0,4,5,40] (.cond 40 (.reg (some [[],[0],[],[],[2,3],[0,1,2,3,4],[0,1,2,3,4,5],[0,1,2,3,4,5,6]]) [jf 42 1 5,jk 43 42,jm 44 0,jq 45 (.bslr 1 [(.k (V.i (-1))),(ki 1)]),jq 46 (.callm 84 true 44 [45]),jb 47 .add .i 43 46,jf 48 1 5,jp (.st 1 48 47)] [4,5]) .skip)))))))))))))) (js [jl 49 6 5,jp (.st 6 4 49)] [4] .ret)))
def rv62:List RV:=[.c 4 true 6]
def ff (g:G) (t:TE) (a0:Cur) (a1:Network):Option (Scan×Cur):=
 cl (iW g t a0 a1) fun x1=>
 cl (aF g t (Cur.mk x1.2.b x1.2.i x1.2.h) 9) fun x2=>
 br (g.eq x2.1 0)
 (
  lP ([0,9999,10000]) fun(l1:List Int)=>
  cl (bS g t (Cur.mk x2.2.b x2.2.i x2.2.h) l1) fun x3=>
  some (((Scan.mk x3.1 x1.1.At x1.1.Kind x1.1.Place (Trip.mk x1.1.Trip.Leg x1.1.Trip.Day)),(Cur.mk x3.2.b x3.2.i x3.2.h))))
 (
  br (g.eq x2.1 1)
  (
   cl (kR g t (Cur.mk x2.2.b x2.2.i x2.2.h)) fun x4=>
   some (((Scan.mk x1.1.Thing x4.1 x1.1.Kind x1.1.Place (Trip.mk x1.1.Trip.Leg x1.1.Trip.Day)),(Cur.mk x4.2.b x4.2.i x4.2.h))))
  (
   br (g.eq x2.1 2)
   (
    cl (aF g t (Cur.mk x2.2.b x2.2.i x2.2.h) 6) fun x5=>
    some (((Scan.mk x1.1.Thing x1.1.At x5.1 x1.1.Place (Trip.mk x1.1.Trip.Leg x1.1.Trip.Day)),(Cur.mk x5.2.b x5.2.i x5.2.h))))
   (
    br (g.eq x2.1 3)
    (
     lP ([str_k0,gg,sZ]) fun(l2:List ByteArray)=>
     cl (gZ g t (Cur.mk x2.2.b x2.2.i x2.2.h) l2) fun x6=>
     some (((Scan.mk x1.1.Thing x1.1.At x1.1.Kind x6.1 (Trip.mk x1.1.Trip.Leg x1.1.Trip.Day)),(Cur.mk x6.2.b x6.2.i x6.2.h))))
    (
     br (g.eq x2.1 4)
     (
      lP ([0,1,60,61,(-1)]) fun(l3:List Int)=>
      cl (bS g t (Cur.mk x2.2.b x2.2.i x2.2.h) l3) fun x7=>
      some (((Scan.mk x1.1.Thing x1.1.At x1.1.Kind x1.1.Place (Trip.mk x1.1.Trip.Leg x7.1)),(Cur.mk x7.2.b x7.2.i x7.2.h))))
     (
      br (g.eq x2.1 5)
      (
       lP ([(-1),1]) fun(l4:List Int)=>
       cl (bS g t (Cur.mk x2.2.b x2.2.i x2.2.h) l4) fun x8=>
       some (((Scan.mk x1.1.Thing (g.wrap .i64 (g.add x1.1.At x8.1)) x1.1.Kind x1.1.Place (Trip.mk x1.1.Trip.Leg x1.1.Trip.Day)),(Cur.mk x8.2.b x8.2.i x8.2.h))))
      (
       some (((Scan.mk x1.1.Thing x1.1.At x1.1.Kind x1.1.Place (Trip.mk x1.1.Trip.Leg x1.1.Trip.Day)),(Cur.mk x2.2.b x2.2.i x2.2.h)))))))))
theorem pb {g:G} {t:TE} {a0:Cur} {a1:Network} {r:Scan×Cur} (hg:g=G.real) (ht:t=TE.real) (h:ff g t a0 a1=some r):FnM Tryz.prog 62 (.p (Cur.ds t a0)) [.g (Network.rs t a1)] (.g (Scan.ds t r.1)) (.p (Cur.ds t r.2)):=by
 obtain⟨X,hX⟩:=au (.g (Scan.ds t r.1):X);obtain⟨Y,hY⟩:=au (.p (Cur.ds t r.2):AM);rw[←hX,←hY];refine dY (rvs:=rv62) (j:=(ir62 str_k0 gg sZ)) Tryz.func62 rfl (by kernel_rfl) (nb rfl) (by kernel_rfl) ac ?_;intro g2 F hg2 hF;obtain rfl:g2=g:=hg2.unique.trans hg.symm;clear hg2;obtain⟨_,_,_,eq⟩:=g2;obtain⟨_,_,_,_,r_I64,_,r_S⟩:=t
 obtain⟨a0_b,a0_i,a0_h⟩:=a0;obtain⟨a1_Legs,a1_Off,a1_Change⟩:=a1;unfold ff at h;try dsimp only at h
 obtain⟨s_k0,hs_k0⟩:∃s,str_k0=s:=⟨_,rfl⟩;try rw[hs_k0] at h
 rw[hs_k0];obtain⟨s_k1,hs_k1⟩:∃s,gg=s:=⟨_,rfl⟩;try rw[hs_k1] at h
 rw[hs_k1];obtain⟨s_k8,hs_k8⟩:∃s,sZ=s:=⟨_,rfl⟩;try rw[hs_k8] at h
 rw[hs_k8];cbv;obtain⟨x1,hx1,h⟩:=ae h;obtain⟨⟨x1_1_Thing,x1_1_At,x1_1_Kind,x1_1_Place,⟨x1_1_Trip_Leg,x1_1_Trip_Day⟩⟩,⟨x1_2_b,x1_2_i,x1_2_h⟩⟩:=x1;try dsimp only at h
 refine ACallM.mk _ _ _ _ rfl rfl (hF _ _ _ (tD hg ht hx1)) rfl (nb rfl) (nb rfl) ?_;cbv;obtain⟨x2,hx2,h⟩:=ae h;obtain⟨x2_1,⟨x2_2_b,x2_2_i,x2_2_h⟩⟩:=x2;try dsimp only at h
 refine ACallM.mk _ _ _ _ rfl rfl (hF _ _ _ (aw hg ht hx2)) rfl (nb rfl) (nb rfl) ?_;cbv
 cases hb1:(eq x2_1 0)
 rotate_left
 ·rw[ab hb1] at h;cbv;obtain⟨l1,hl1,h⟩:=aj h;try dsimp only at h
  refine AVal.mk (r_I64 l1) (by rw[←hl1];exact cf hg ht [0,9999,10000]) ?_;cbv;obtain⟨x3,hx3,h⟩:=ae h;obtain⟨x3_1,⟨x3_2_b,x3_2_i,x3_2_h⟩⟩:=x3;try dsimp only at h
  refine ACallM.mk _ _ _ _ rfl rfl (hF _ _ _ (bH hg ht hx3)) rfl (nb rfl) (nb rfl) ?_;cbv;obtain rfl:=Option.some.inj h;exact ARetM.mk trivial hX.symm hY.symm
 rw[aa hb1] at h;cbv
 cases hb2:(eq x2_1 1)
 rotate_left
 ·rw[ab hb2] at h;cbv;obtain⟨x4,hx4,h⟩:=ae h;obtain⟨x4_1,⟨x4_2_b,x4_2_i,x4_2_h⟩⟩:=x4;try dsimp only at h
  refine ACallM.mk _ _ _ _ rfl rfl (hF _ _ _ (vC hg ht hx4)) rfl (nb rfl) (nb rfl) ?_;cbv;obtain rfl:=Option.some.inj h;exact ARetM.mk trivial hX.symm hY.symm
 rw[aa hb2] at h;cbv
 cases hb3:(eq x2_1 2)
 rotate_left
 ·rw[ab hb3] at h;cbv;obtain⟨x5,hx5,h⟩:=ae h;obtain⟨x5_1,⟨x5_2_b,x5_2_i,x5_2_h⟩⟩:=x5;try dsimp only at h
  refine ACallM.mk _ _ _ _ rfl rfl (hF _ _ _ (aw hg ht hx5)) rfl (nb rfl) (nb rfl) ?_;cbv;obtain rfl:=Option.some.inj h;exact ARetM.mk trivial hX.symm hY.symm
 rw[aa hb3] at h;cbv
 cases hb4:(eq x2_1 3)
 rotate_left
 ·rw[ab hb4] at h;cbv;obtain⟨l2,hl2,h⟩:=aj h;try dsimp only at h
  refine AVal.mk (r_S l2) (by rw[←hl2];exact s8 hg ht [s_k0,s_k1,s_k8]) ?_;cbv;obtain⟨x6,hx6,h⟩:=ae h;obtain⟨x6_1,⟨x6_2_b,x6_2_i,x6_2_h⟩⟩:=x6;try dsimp only at h
  refine ACallM.mk _ _ _ _ rfl rfl (hF _ _ _ (lJ hg ht hx6)) rfl (nb rfl) (nb rfl) ?_;cbv;obtain rfl:=Option.some.inj h;exact ARetM.mk trivial hX.symm hY.symm
 rw[aa hb4] at h;cbv
 cases hb5:(eq x2_1 4)
 rotate_left
 ·rw[ab hb5] at h;cbv;obtain⟨l3,hl3,h⟩:=aj h;try dsimp only at h
  refine AVal.mk (r_I64 l3) (by rw[←hl3];exact cf hg ht [0,1,60,61,(-1)]) ?_;cbv;obtain⟨x7,hx7,h⟩:=ae h;obtain⟨x7_1,⟨x7_2_b,x7_2_i,x7_2_h⟩⟩:=x7;try dsimp only at h
  refine ACallM.mk _ _ _ _ rfl rfl (hF _ _ _ (bH hg ht hx7)) rfl (nb rfl) (nb rfl) ?_;cbv;obtain rfl:=Option.some.inj h;exact ARetM.mk trivial hX.symm hY.symm
 rw[aa hb5] at h;cbv
 cases hb6:(eq x2_1 5)
 ·rw[aa hb6] at h;cbv;obtain rfl:=Option.some.inj h;exact ARetM.mk trivial hX.symm hY.symm
 rw[ab hb6] at h;cbv;obtain⟨l4,hl4,h⟩:=aj h;try dsimp only at h
 refine AVal.mk (r_I64 l4) (by rw[←hl4];exact cf hg ht [(-1),1]) ?_;cbv;obtain⟨x8,hx8,h⟩:=ae h;obtain⟨x8_1,⟨x8_2_b,x8_2_i,x8_2_h⟩⟩:=x8;try dsimp only at h
 refine ACallM.mk _ _ _ _ rfl rfl (hF _ _ _ (bH hg ht hx8)) rfl (nb rfl) (nb rfl) ?_;cbv;obtain rfl:=Option.some.inj h;exact ARetM.mk trivial hX.symm hY.symm
def ir25:J:=js [jq 2 (.alloc [.n 6,.n 1,.r (.v (.int .i64 0))]),jq 3 (.alloc [.r (.v (.int .i64 0)),.r (.v (.int .i64 0)),.r (.v (.int .i64 0)),.r (.v (.string .empty)),.r (.v (.int .i64 0)),.r (.v (.int .i64 0))])] [0,2,3] (js [jm 6 0,jc 7 60 [6],jm 4 7] [2,3,4] (js [jm 8 4,jq 9 (.callm 61 false 8 []),jq 5 (.alloc [.n 6,.n 1,.r (.v (.int .i64 0))]),jp (.st 3 5 9)] [2,3,4,5] (.seq (.reg (some [[],[],[],[1,2],[0,1,2,3],[0,1,2,3,4]]) [jl 10 3 5,jm 11 4,jl 12 3 5,jq 13 (.callm 62 true 11 [12]),jp (.st 3 2 10),jp (.st 6 3 13)] [2,3]) .ret)))
def rv25:List RV:=[.c 2 true 3,.c 3 true 6]
def fG (g:G) (t:TE) (a0:List Int):Option (Network×Scan):=
 lP (mR g t a0) fun x1=>
 cl (kx g t x1) fun x2=>
 cl (ff g t (Cur.mk x2.2.b x2.2.i x2.2.h) (Network.mk x2.1.Legs x2.1.Off x2.1.Change)) fun x3=>
 some (((Network.mk x2.1.Legs x2.1.Off x2.1.Change),(Scan.mk x3.1.Thing x3.1.At x3.1.Kind x3.1.Place (Trip.mk x3.1.Trip.Leg x3.1.Trip.Day))))
theorem ot {g:G} {t:TE} {a0:List Int} {r:Network×Scan} (hg:g=G.real) (ht:t=TE.real) (h:fG g t a0=some r):Fn Tryz.prog 25 [.c (.s 1 (t.r_U8 a0))] (.u [.g ((Network.rs t r.1).map .r),.g (Scan.ds t r.2)]):=by
 obtain⟨X,hX⟩:=au (.u [.g ((Network.rs t r.1).map .r),.g (Scan.ds t r.2)]:X);rw[←hX];refine aq (rvs:=rv25) (j:=ir25) Tryz.func25 rfl (by kernel_rfl) (nb rfl) (by kernel_rfl) ac ?_;intro g2 F hg2 hF;obtain rfl:g2=g:=hg2.unique.trans hg.symm;clear hg2;obtain⟨_,_,_,_,_,_,_,_,_,_,_,_,_,_,_,_,_,_,_,_,_,_,_,_,_,_,_,_,_,rda⟩:=g2;obtain⟨_,_,r_Leg,d_Leg,r_I64,d_I64⟩:=t
 have hrda_Leg:∀l,rda (d_Leg l)=r_Leg l:=qt hg ht;have hrda_I64:∀l,rda (d_I64 l)=r_I64 l:=nd hg ht;unfold fG at h;try dsimp only at h
 cbv;obtain⟨x1,hx1,h⟩:=aj h;obtain⟨x1_b,x1_i,x1_h⟩:=x1;try dsimp only at h
 refine ACall.mk _ _ rfl (hF _ _ _ (vS hg ht hx1)) (.inl rfl) (nb rfl) ?_;cbv;obtain⟨x2,hx2,h⟩:=ae h;obtain⟨⟨x2_1_Legs,x2_1_Off,x2_1_Change⟩,⟨x2_2_b,x2_2_i,x2_2_h⟩⟩:=x2;try dsimp only at h
 refine ACallMR.mk _ _ _ _ (.g [.r (.s 6 (r_Leg x2_1_Legs)),.r (.s 1 (r_I64 x2_1_Off)),.r (.v (.int .i64 x2_1_Change))]) rfl rfl (hF _ _ _ (wn hg ht hx2)) rfl (nb rfl) (nb rfl) (by cbv;(try simp only[hrda_I64,hrda_Leg])) ?_;cbv;obtain⟨x3,hx3,h⟩:=ae h;obtain⟨⟨x3_1_Thing,x3_1_At,x3_1_Kind,x3_1_Place,⟨x3_1_Trip_Leg,x3_1_Trip_Day⟩⟩,⟨x3_2_b,x3_2_i,x3_2_h⟩⟩:=x3;try dsimp only at h
 refine ACallM.mk _ _ _ _ rfl rfl (hF _ _ _ (pb hg ht hx3)) rfl (nb rfl) (nb rfl) ?_;cbv;obtain rfl:=Option.some.inj h;exact ARet.mk trivial hX.symm
def ir7:J:=js [jq 2 (.alloc [.n 6,.n 1,.r (.v (.int .i64 0))]),jq 3 (.alloc [.r (.v (.int .i64 0)),.r (.v (.int .i64 0)),.r (.v (.int .i64 0)),.r (.v (.string .empty)),.r (.v (.int .i64 0)),.r (.v (.int .i64 0))])] [0,2,3] (js [jm 4 0,jc 5 25 [4],jq 6 (.ext 0 5),jq 7 (.ext 1 5),jp (.st 3 2 6),jp (.st 6 3 7)] [2,3] .ret)
def rv7:List RV:=[.c 2 true 3,.c 3 true 6]
def cJ (g:G) (t:TE) (a0:List Int):Option (Network×Scan):=
 cl (fG g t a0) fun x1=>
 some (((Network.mk x1.1.Legs x1.1.Off x1.1.Change),(Scan.mk x1.2.Thing x1.2.At x1.2.Kind x1.2.Place (Trip.mk x1.2.Trip.Leg x1.2.Trip.Day))))
theorem jZ {g:G} {t:TE} {a0:List Int} {r:Network×Scan} (hg:g=G.real) (ht:t=TE.real) (h:cJ g t a0=some r):Fn Tryz.prog 7 [.c (.s 1 (t.r_U8 a0))] (.u [.g ((Network.rs t r.1).map .r),.g (Scan.ds t r.2)]):=by
 obtain⟨X,hX⟩:=au (.u [.g ((Network.rs t r.1).map .r),.g (Scan.ds t r.2)]:X);rw[←hX];refine aq (rvs:=rv7) (j:=ir7) Tryz.func7 rfl (by kernel_rfl) (nb rfl) (by kernel_rfl) ac ?_;intro g2 F hg2 hF;obtain rfl:g2=g:=hg2.unique.trans hg.symm;clear hg2;obtain⟨_⟩:=g2;obtain⟨_⟩:=t;unfold cJ at h
 try dsimp only at h
 cbv;obtain⟨x1,hx1,h⟩:=ae h;obtain⟨⟨x1_1_Legs,x1_1_Off,x1_1_Change⟩,⟨x1_2_Thing,x1_2_At,x1_2_Kind,x1_2_Place,⟨x1_2_Trip_Leg,x1_2_Trip_Day⟩⟩⟩:=x1;try dsimp only at h
 refine ACall.mk _ _ rfl (hF _ _ _ (ot hg ht hx1)) (.inl rfl) (nb rfl) ?_;cbv;obtain rfl:=Option.some.inj h;exact ARet.mk trivial hX.symm
def ir15:J:=js [jm 4 (ki 0)] [0,1] (.seq (js [jm 5 (ki 0)] [0,1,5] (.bl 0 (.seq (js [jm 6 5,jm 7 0,jq 8 (.len false 7),jb 9 .lss .i 6 8] [0,1,5,9] (.cond 9 .skip (.exit 0))) (.seq (.block 1 (js [jm 12 0,jm 13 5,ja 14 1 12 13,jk 15 14,jm 16 1,jb 17 .eql .s 15 16] [0,1,5,17] (.cond 17 (js [jm 18 5,jm 4 18] [4] .ret) .skip))) (.reg none [jm 10 5,jb 11 .add .i 10 (ki 1),jm 5 11] [0,1,5]))))) (js [jq 4 (.mv (.k (V.i (-1))))] [4] .ret))
def rv15:List RV:=[.t 4]
def d6 (g:G) (t:TE) (a1:ByteArray):List ByteArray→Int→LR Int Unit
 |[],v1=>
  (LR.out ())
 |z1::ls1,v1=>
  br (g.seq z1 a1)
  (
   (LR.ret v1))
  (
   d6 g t a1 ls1 (g.wrap .i64 (g.add v1 1)))
def jo (g:G) (t:TE) (a0:List ByteArray) (a1:ByteArray):Int:=
 lP (d6 g t a1 a0 0) fun o1=>lrp o1 fun y1=>
 (-1)
theorem pJ {g:G} {t:TE} {a0:List ByteArray} {a1:ByteArray} {r:Int} (hg:g=G.real) (ht:t=TE.real) (h:jo g t a0 a1=r):Fn Tryz.prog 15 [.c (.s 1 (t.r_S a0)),.c (.v (.string a1))] (.c (.r (.v (.int .i64 r)))):=by
 obtain⟨X,hX⟩:=au (.c (.r (.v (.int .i64 r))):X);rw[←hX];refine aq (rvs:=rv15) (j:=ir15) Tryz.func15 rfl (by kernel_rfl) (nb rfl) (by kernel_rfl) ac ?_;intro g2 F hg2 hF;obtain rfl:g2=g:=hg2.unique.trans hg.symm;clear hg2;obtain⟨wrap,lt,_,_,_,_,_,_,_,_,_,_,_,add,_,_,_,seq,_,_,_,llen⟩:=g2;obtain⟨_,_,_,_,_,_,r_S⟩:=t;unfold jo at h;try dsimp only at h
 cbv;obtain⟨o1,ho1,h⟩:=aj h;try dsimp only at h
 try rw[hg] at ho1
 try rw[ht] at ho1
 refine ABL.mk {p:Nat×Int//p.1≤a0.length∧p.2=((p.1:Nat):Int)∧d6 G.real TE.real a1 (List.drop p.1 a0) p.2=o1} (fun⟨⟨k1,v1⟩,_⟩=>({sl:=[(0,.c (.r (.s 1 (r_S a0)))),(1,.c (.r (.v (.string a1)))),(5,.c (.r (.v (.int .i64 v1))))],tab:=[]}:St)) 0 (fun p=>a0.length-p.1.1) ⟨(0,0),Nat.zero_le _,rfl,ho1⟩ (Unit) (fun _=>({sl:=[],tab:=[]}:St)) 0 (fun y=>o1=LR.out y) ?_ ?_ ?_
 ·refine Wk.of [] rfl rfl ?_ ?_
  ·cbv;all_goals exact⟨⟨_,rfl,rfl⟩,⟨_,rfl,rfl⟩,⟨_,rfl,rfl⟩,trivial⟩
  cbv;all_goals exact trivial
 ·rintro⟨⟨k1,v1⟩,hk1,hi1,h_1⟩ hq1;have hm1:=(hq1.1 0 _ _ rfl);try dsimp only at hk1 hi1 h_1
  clear hq1;cbv
  by_cases hc1_:k1<a0.length
  ·have hb1:lt v1 (llen (r_S a0))=true:=ko hg ht hi1 hc1_;have hs1:=qM hg ht hi1 hc1_ hm1;obtain⟨z1,hz1⟩:=a8 hc1_;rw[aN hz1] at h_1;rw[d6] at h_1;try rw[←hg] at h_1
   try rw[←ht] at h_1
   try dsimp only at h_1
   rw[hb1];cbv;refine AStep.mk (ic hi1) ?_;cbv;refine AGet.mk _ (oE hg ht hi1 hz1) ?_;cbv
   cases hb2:(seq z1 a1)
   rotate_left
   ·rw[ab hb2] at h_1;cbv;subst h_1;try dsimp only[lr,lrL,lrp,bu] at h
    subst h;exact ARet.mk trivial hX.symm
   rw[aa hb2] at h_1;cbv;try rw[hg] at h_1
   try rw[ht] at h_1
   refine⟨⟨(k1+1,(wrap .i64 (add v1 1))),hc1_,hs1,h_1⟩,Wk.of [] rfl rfl ?_ ?_,db hc1_⟩
   ·cbv;all_goals exact⟨⟨_,rfl,rfl⟩,⟨_,rfl,rfl⟩,⟨_,rfl,rfl⟩,trivial⟩
   cbv;all_goals exact trivial
  have hb1:lt v1 (llen (r_S a0))=false:=iu hg ht hi1 hc1_;rw[List.drop_of_length_le (Nat.le_of_not_lt hc1_)] at h_1;rw[d6] at h_1;try rw[←hg] at h_1
  try rw[←ht] at h_1
  try dsimp only at h_1
  rw[hb1];cbv;refine⟨(),Wk.of [] rfl rfl ?_ ?_,h_1.symm⟩
  ·cbv;all_goals exact trivial
  cbv;all_goals exact trivial
 rintro _ hy1;replace hy1:=hy1.symm;subst hy1;try dsimp only[lr,lrL,lrp,bu] at h
 cbv;subst h;exact ARet.mk trivial hX.symm
def ir3 (s_k0:ByteArray):J:=js [jm 2 kf] [0] (.seq (js [jm 10 0,jc 11 6 [10]] [0,11] (.cond 11 (js [jm 2 kt] [2] .ret) .skip)) (js [jm 13 0,jq 14 (.call 7 false [13]),jm 12 14,jq 15 (.ext 0 12),jq 16 (.ext 1 12),jq 3 (.alloc [.n 6,.n 1,.r (.v (.int .i64 0))]),jq 4 (.alloc [.r (.v (.int .i64 0)),.r (.v (.int .i64 0)),.r (.v (.int .i64 0)),.r (.v (.string .empty)),.r (.v (.int .i64 0)),.r (.v (.int .i64 0))]),jp (.st 3 3 15),jp (.st 6 4 16)] [3,4] (js [jl 17 3 3,jl 18 6 4,jc 19 8 [17,18],jm 5 19] [3,4,5] (js [jl 21 3 3,jm 22 5,jc 23 9 [21,22],jm 20 23,jq 24 (.ext 0 20),jq 25 (.ext 1 20),jq 6 (.alloc [.r (.v (.int .i64 0)),.r (.v (.int .i64 0)),.r (.v (.int .i64 0)),.r (.v (.string .empty)),.r (.v (.int .i64 0)),.r (.v (.int .i64 0))]),jp (.st 6 6 24),jm 7 25] [3,4,5,6,7] (.seq (.seq (.reg (some [[],[],[0,1],[],[],[0,1,2,3,4],[0,1,2,3,4,5]]) [jl 26 3 3,jl 27 6 4,jc 28 10 [26,27],jl 29 3 3,jl 30 6 4,jc 31 11 [29,30],jb 32 .neq .b 28 31] [3,4,5,6,7,32]) (.cond 32 (js [jm 2 kf] [2] .ret) .skip)) (.seq (js [jl 33 3 3,jl 34 6 4,jc 35 10 [33,34],jq 36 (.not 35)] [3,4,5,6,7,36] (.cond 36 (js [jm 37 5,jq 38 (.bin .eql .s 37 (.k (.c (.r (.v (.string s_k0)))))),jm 39 38,ju 40 39 (.mv 7),ju 41 39 (.not 40),jq 42 (.pick 39 41 kf),jm 43 42,ju 44 43 (.ld true 3 3),ju 45 43 (.ld true 6 4),ju 46 43 (.call 12 true [44,45]),ju 47 43 (.bin .eql .s 46 (.k (.c (.r (.v (.string s_k0)))))),jq 48 (.pick 43 47 kf),jm 2 48] [2] .ret) .skip)) (js [jl 49 3 3,jl 50 6 4,jc 51 13 [49,50],jq 8 (.alloc [.r (.v (.string .empty)),.r (.v (.int .i64 0))]),jp (.st 2 8 51)] [3,4,6,7,8] (js [jl 52 3 3,jl 53 6 4,jc 54 14 [52,53],jq 9 (.alloc [.r (.v (.string .empty)),.r (.v (.int .i64 0))]),jp (.st 2 9 54)] [3,4,6,7,8,9] (.seq (.reg (some [[],[0],[0,1],[0,1],[0,1,2,3],[0,1,2,3,4],[0,1,2,3,4,5],[0,1,2,3,4,5,6],[0,1,2,3,4,5,6,7],[0,1,2,3,4,5,6],[0,1,2,3,4,5,6],[0,1,2,3,4,5,6,7,8,9,10],[0,1,2,3,4,5,6,7,8,9,10,11],[0,1,2,3,4,5,6,7,8,9,10,11,12],[0,1,2,3,4,5,6,7,8,9,10,11,12,13],[0,1,2,3,4,5,6,7,8,9,10,11,12,13,14],[0,1,2,3,4,5,6,7,8,9,10,11,12,13,14,15],[0,1,2,3,4,5,6,7,8,9,10,11,12,13,14,15,16],[0,1,2,3,4,5,6,7,8,9,10,11,12,13,14,15],[0,1,2,3,4,5,6,7,8,9,10,11,12,13,14,15,18],[0,1,2,3,4,5,6,7,8,9,10,11,12,13,14,15,16,17,18,19],[0,1,2,3,4,5,6,7,8,9,10,11,12,13,14,15,16,17,18,19,20],[0,1,2,3,4,5,6,7,8,9,10,11,12,13,14,15,16,17,18,19,20,21]]) [jm 55 7,jm 56 55,ju 57 56 (.ld true 6 6),ju 58 56 (.ld true 6 4),ju 59 56 (.eqs false [.i,.i,.i,.s,.i,.i] 57 58),jq 60 (.pick 56 59 kf),jm 61 60,ju 62 61 (.ld true 3 3),ju 63 61 (.call 16 false [62]),ju 64 61 (.ld true 3 3),ju 65 61 (.ld true 6 4),ju 66 61 (.call 12 true [64,65]),ju
 67 61 (.call 15 true [63,66]),ju 68 61 (.bin .geq .i 67 (ki 0)),jq 69 (.pick 61 68 kf),jm 70 69,ju 71 70 (.fa 1 8),ju 72 70 (.ld false 1 71),ju 73 70 (.fa 1 9),ju 74 70 (.ld false 1 73),ju 75 70 (.bin .geq .i 72 74),jq 76 (.pick 70 75 kf),jm 2 76] [2]) .ret)))))))))
def rv3:List RV:=[.t 2]
def eC (g:G) (t:TE) (a0:List Int):Option Bool:=
 lP (qj g t a0) fun x1=>
 br x1
 (
  some true)
 (
  cl (cJ g t a0) fun x2=>
  cl (ci g t (Network.mk x2.1.Legs x2.1.Off x2.1.Change) (Scan.mk x2.2.Thing x2.2.At x2.2.Kind x2.2.Place (Trip.mk x2.2.Trip.Leg x2.2.Trip.Day))) fun x3=>
  cl (eh g t (Network.mk x2.1.Legs x2.1.Off x2.1.Change) x3) fun x4=>
  cl (dk g t (Network.mk x2.1.Legs x2.1.Off x2.1.Change) (Scan.mk x2.2.Thing x2.2.At x2.2.Kind x2.2.Place (Trip.mk x2.2.Trip.Leg x2.2.Trip.Day))) fun x5=>
  cl (gT g t (Network.mk x2.1.Legs x2.1.Off x2.1.Change) (Scan.mk x2.2.Thing x2.2.At x2.2.Kind x2.2.Place (Trip.mk x2.2.Trip.Leg x2.2.Trip.Day))) fun x6=>
  br x5
  (
   br x6
   (
    cl (dk g t (Network.mk x2.1.Legs x2.1.Off x2.1.Change) (Scan.mk x2.2.Thing x2.2.At x2.2.Kind x2.2.Place (Trip.mk x2.2.Trip.Leg x2.2.Trip.Day))) fun x7=>
    br x7
    (
     cl (dC g t (Network.mk x2.1.Legs x2.1.Off x2.1.Change) (Scan.mk x2.2.Thing x2.2.At x2.2.Kind x2.2.Place (Trip.mk x2.2.Trip.Leg x2.2.Trip.Day))) fun x8=>
     cl (dG g t (Network.mk x2.1.Legs x2.1.Off x2.1.Change) (Scan.mk x2.2.Thing x2.2.At x2.2.Kind x2.2.Place (Trip.mk x2.2.Trip.Leg x2.2.Trip.Day))) fun x9=>
     br x4.2
     (
      br (g.all [(g.eq x4.1.Thing x2.2.Thing),(g.eq x4.1.At x2.2.At),(g.eq x4.1.Kind x2.2.Kind),(g.seq x4.1.Place x2.2.Place),(g.eq x4.1.Trip.Leg x2.2.Trip.Leg),(g.eq x4.1.Trip.Day x2.2.Trip.Day)])
      (
       cl (cX g t (Network.mk x2.1.Legs x2.1.Off x2.1.Change)) fun x10=>
       cl (dF g t (Network.mk x2.1.Legs x2.1.Off x2.1.Change) (Scan.mk x2.2.Thing x2.2.At x2.2.Kind x2.2.Place (Trip.mk x2.2.Trip.Leg x2.2.Trip.Day))) fun x11=>
       lP (jo g t x10 x11) fun x12=>
       br (g.le 0 x12)
       (
        some (g.le x9.At x8.At))
       (
        some false))
      (
       some false))
     (
      some false))
    (
     br (g.seq x3 str_k0)
     (
      br x4.2
      (
       some false)
      (
       cl (dF g t (Network.mk x2.1.Legs x2.1.Off x2.1.Change) (Scan.mk x2.2.Thing x2.2.At x2.2.Kind x2.2.Place (Trip.mk x2.2.Trip.Leg x2.2.Trip.Day))) fun x13=>
       some (g.seq x13 str_k0)))
     (
      some false)))
   (
    some false))
  (
   br x6
   (
    some false)
   (
    cl (dk g t (Network.mk x2.1.Legs x2.1.Off x2.1.Change) (Scan.mk x2.2.Thing x2.2.At x2.2.Kind x2.2.Place (Trip.mk x2.2.Trip.Leg x2.2.Trip.Day))) fun x14=>
    br x14
    (
     cl (dC g t (Network.mk x2.1.Legs x2.1.Off x2.1.Change) (Scan.mk x2.2.Thing x2.2.At x2.2.Kind x2.2.Place (Trip.mk x2.2.Trip.Leg x2.2.Trip.Day))) fun x15=>
     cl (dG g t (Network.mk x2.1.Legs x2.1.Off x2.1.Change) (Scan.mk x2.2.Thing x2.2.At x2.2.Kind x2.2.Place (Trip.mk x2.2.Trip.Leg x2.2.Trip.Day))) fun x16=>
     br x4.2
     (
      br (g.all [(g.eq x4.1.Thing x2.2.Thing),(g.eq x4.1.At x2.2.At),(g.eq x4.1.Kind x2.2.Kind),(g.seq x4.1.Place x2.2.Place),(g.eq x4.1.Trip.Leg x2.2.Trip.Leg),(g.eq x4.1.Trip.Day x2.2.Trip.Day)])
      (
       cl (cX g t (Network.mk x2.1.Legs x2.1.Off x2.1.Change)) fun x17=>
       cl (dF g t (Network.mk x2.1.Legs x2.1.Off x2.1.Change) (Scan.mk x2.2.Thing x2.2.At x2.2.Kind x2.2.Place (Trip.mk x2.2.Trip.Leg x2.2.Trip.Day))) fun x18=>
       lP (jo g t x17 x18) fun x19=>
       br (g.le 0 x19)
       (
        some (g.le x16.At x15.At))
       (
        some false))
      (
       some false))
     (
      some false))
    (
     br (g.seq x3 str_k0)
     (
      br x4.2
      (
       some false)
      (
       cl (dF g t (Network.mk x2.1.Legs x2.1.Off x2.1.Change) (Scan.mk x2.2.Thing x2.2.At x2.2.Kind x2.2.Place (Trip.mk x2.2.Trip.Leg x2.2.Trip.Day))) fun x20=>
       some (g.seq x20 str_k0)))
     (
      some false)))))
theorem oP {g:G} {t:TE} {a0:List Int} {r:Bool} (hg:g=G.real) (ht:t=TE.real) (h:eC g t a0=some r):Fn Tryz.prog 3 [.c (.s 1 (t.r_U8 a0))] (.c (.r (.v (.bool r)))):=by
 obtain⟨X,hX⟩:=au (.c (.r (.v (.bool r))):X);rw[←hX];refine aq (rvs:=rv3) (j:=(ir3 str_k0)) Tryz.func3 rfl (by kernel_rfl) (nb rfl) (by kernel_rfl) ac ?_;intro g2 F hg2 hF;obtain rfl:g2=g:=hg2.unique.trans hg.symm;clear hg2;obtain⟨_,_,le,eq,_,_,_,_,_,_,_,_,_,_,_,_,_,seq,_,_,_,_,_,_,_,_,_,_,_,rda,_,_,_,all⟩:=g2;obtain⟨_,_,r_Leg,d_Leg,r_I64,d_I64,r_S,d_S⟩:=t;have hrda_Leg:∀l,rda (d_Leg l)=r_Leg l:=qt hg ht
 have hrda_I64:∀l,rda (d_I64 l)=r_I64 l:=nd hg ht;have hrda_S:∀l,rda (d_S l)=r_S l:=zW hg ht;unfold eC at h;try dsimp only at h
 obtain⟨s_k0,hs_k0⟩:∃s,str_k0=s:=⟨_,rfl⟩;try rw[hs_k0] at h
 rw[hs_k0];cbv;obtain⟨x1,hx1,h⟩:=aj h;try dsimp only at h
 refine ACall.mk _ _ rfl (hF _ _ _ (zB hg ht hx1)) (.inl rfl) (nb rfl) ?_;cbv
 cases hb1:x1
 rotate_left
 ·rw[ab hb1] at h;cbv;obtain rfl:=Option.some.inj h;exact ARet.mk trivial hX.symm
 rw[aa hb1] at h;cbv;obtain⟨x2,hx2,h⟩:=ae h;obtain⟨⟨x2_1_Legs,x2_1_Off,x2_1_Change⟩,⟨x2_2_Thing,x2_2_At,x2_2_Kind,x2_2_Place,⟨x2_2_Trip_Leg,x2_2_Trip_Day⟩⟩⟩:=x2;try dsimp only at h
 refine ACallR.mk _ _ (.u [.g [.r (.s 6 (r_Leg x2_1_Legs)),.r (.s 1 (r_I64 x2_1_Off)),.r (.v (.int .i64 x2_1_Change))],.g [.r (.v (.int .i64 x2_2_Thing)),.r (.v (.int .i64 x2_2_At)),.r (.v (.int .i64 x2_2_Kind)),.r (.v (.string x2_2_Place)),.r (.v (.int .i64 x2_2_Trip_Leg)),.r (.v (.int .i64 x2_2_Trip_Day))]]) rfl (hF _ _ _ (jZ hg ht hx2)) (.inl rfl) (nb rfl) (by cbv;(try simp only[hrda_I64,hrda_Leg])) ?_;cbv;obtain⟨x3,hx3,h⟩:=ae h;try dsimp only at h
 refine ACall.mk _ _ rfl (hF _ _ _ (eD hg ht hx3)) (.inl rfl) (nb rfl) ?_;cbv;obtain⟨x4,hx4,h⟩:=ae h;obtain⟨⟨x4_1_Thing,x4_1_At,x4_1_Kind,x4_1_Place,⟨x4_1_Trip_Leg,x4_1_Trip_Day⟩⟩,x4_2⟩:=x4;try dsimp only at h
 refine ACall.mk _ _ rfl (hF _ _ _ (jG hg ht hx4)) (.inl rfl) (nb rfl) ?_;cbv;obtain⟨x5,hx5,h⟩:=ae h;try dsimp only at h
 refine ACall.mk _ _ rfl (hF _ _ _ (d8 hg ht hx5)) (.inl rfl) (nb rfl) ?_;cbv;obtain⟨x6,hx6,h⟩:=ae h;try dsimp only at h
 refine ACall.mk _ _ rfl (hF _ _ _ (nv hg ht hx6)) (.inl rfl) (nb rfl) ?_;cbv
 cases hb2:x5
 rotate_left
 ·rw[ab hb2] at h;cbv
  cases hb3:x6
  ·rw[aa hb3] at h;cbv;obtain rfl:=Option.some.inj h;exact ARet.mk trivial hX.symm
  rw[ab hb3] at h;cbv;obtain⟨x7,hx7,h⟩:=ae h;try dsimp only at h
  refine ACall.mk _ _ rfl (hF _ _ _ (d8 hg ht hx7)) (.inl rfl) (nb rfl) ?_;cbv
  cases hb4:x7
  ·rw[aa hb4] at h;cbv
   cases hb8:(seq x3 s_k0)
   ·rw[aa hb8] at h;cbv;iterate 2 try(rw[hb8];cbv)
    obtain rfl:=Option.some.inj h;exact ARet.mk trivial hX.symm
   rw[ab hb8] at h;cbv;iterate 2 try(rw[hb8];cbv)
   have hb9:x4_2=true∨x4_2=false:=by cases x4_2<;>simp
   rcases hb9 with hb9|hb9
   ·rw[ab hb9] at h;have hK_:=h;subst hb9;have h:=hK_;clear hK_;cbv;iterate 4 try(rw[hb9];cbv)
    obtain rfl:=Option.some.inj h;exact ARet.mk trivial hX.symm
   rw[aa hb9] at h;have hK_:=h;subst hb9;have h:=hK_;clear hK_;cbv;iterate 2 try(rw[hb9];cbv)
   obtain⟨x13,hx13,h⟩:=ae h;try dsimp only at h
   refine ACall.mk _ _ rfl (hF _ _ _ (eY hg ht hx13)) (.inl rfl) (nb rfl) ?_;cbv;iterate 2 try(rw[hb9];cbv)
   obtain rfl:=Option.some.inj h;exact ARet.mk trivial hX.symm
  rw[ab hb4] at h;cbv;obtain⟨x8,hx8,h⟩:=ae h;obtain⟨x8_Place,x8_At⟩:=x8;try dsimp only at h
  refine ACall.mk _ _ rfl (hF _ _ _ (iB hg ht hx8)) (.inl rfl) (nb rfl) ?_;cbv;obtain⟨x9,hx9,h⟩:=ae h;obtain⟨x9_Place,x9_At⟩:=x9;try dsimp only at h
  refine ACall.mk _ _ rfl (hF _ _ _ (iT hg ht hx9)) (.inl rfl) (nb rfl) ?_;cbv;have hb5:x4_2=true∨x4_2=false:=by cases x4_2<;>simp
  rcases hb5 with hb5|hb5
  ·rw[ab hb5] at h;have hK_:=h;subst hb5;have h:=hK_;clear hK_;cbv;iterate 3 try(rw[hb5];cbv)
   cases hb6:(all [(eq x4_1_Thing x2_2_Thing),(eq x4_1_At x2_2_At),(eq x4_1_Kind x2_2_Kind),(seq x4_1_Place x2_2_Place),(eq x4_1_Trip_Leg x2_2_Trip_Leg),(eq x4_1_Trip_Day x2_2_Trip_Day)])
   ·rw[aa hb6] at h;cbv;iterate 7 try(rw[hb6];cbv)
    obtain rfl:=Option.some.inj h;exact ARet.mk trivial hX.symm
   rw[ab hb6] at h;cbv;try(rw[hb6];cbv)
   obtain⟨x10,hx10,h⟩:=ae h;try dsimp only at h
   refine ACallR.mk _ _ (.c (.r (.s 1 (r_S x10)))) rfl (hF _ _ _ (eE hg ht hx10)) (.inl rfl) (nb rfl) (by cbv;(try simp only[hrda_S])) ?_;cbv;iterate 3 try(rw[hb6];cbv)
   obtain⟨x11,hx11,h⟩:=ae h;try dsimp only at h
   refine ACall.mk _ _ rfl (hF _ _ _ (eY hg ht hx11)) (.inl rfl) (nb rfl) ?_;cbv;try(rw[hb6];cbv)
   obtain⟨x12,hx12,h⟩:=aj h;try dsimp only at h
   refine ACall.mk _ _ rfl (hF _ _ _ (pJ hg ht hx12)) (.inl rfl) (nb rfl) ?_;cbv;iterate 2 try(rw[hb6];cbv)
   cases hb7:(le 0 x12)
   rotate_left
   ·rw[ab hb7] at h;cbv;iterate 5 try(rw[hb7];cbv)
    obtain rfl:=Option.some.inj h;exact ARet.mk trivial hX.symm
   rw[aa hb7] at h;cbv;iterate 5 try(rw[hb7];cbv)
   obtain rfl:=Option.some.inj h;exact ARet.mk trivial hX.symm
  rw[aa hb5] at h;have hK_:=h;subst hb5;have h:=hK_;clear hK_;cbv;iterate 3 try(rw[hb5];cbv)
  obtain rfl:=Option.some.inj h;exact ARet.mk trivial hX.symm
 rw[aa hb2] at h;cbv
 cases hb10:x6
 rotate_left
 ·rw[ab hb10] at h;cbv;obtain rfl:=Option.some.inj h;exact ARet.mk trivial hX.symm
 rw[aa hb10] at h;cbv;obtain⟨x14,hx14,h⟩:=ae h;try dsimp only at h
 refine ACall.mk _ _ rfl (hF _ _ _ (d8 hg ht hx14)) (.inl rfl) (nb rfl) ?_;cbv
 cases hb11:x14
 ·rw[aa hb11] at h;cbv
  cases hb15:(seq x3 s_k0)
  ·rw[aa hb15] at h;cbv;iterate 2 try(rw[hb15];cbv)
   obtain rfl:=Option.some.inj h;exact ARet.mk trivial hX.symm
  rw[ab hb15] at h;cbv;iterate 2 try(rw[hb15];cbv)
  have hb16:x4_2=true∨x4_2=false:=by cases x4_2<;>simp
  rcases hb16 with hb16|hb16
  ·rw[ab hb16] at h;have hK_:=h;subst hb16;have h:=hK_;clear hK_;cbv;iterate 4 try(rw[hb16];cbv)
   obtain rfl:=Option.some.inj h;exact ARet.mk trivial hX.symm
  rw[aa hb16] at h;have hK_:=h;subst hb16;have h:=hK_;clear hK_;cbv;iterate 2 try(rw[hb16];cbv)
  obtain⟨x20,hx20,h⟩:=ae h;try dsimp only at h
  refine ACall.mk _ _ rfl (hF _ _ _ (eY hg ht hx20)) (.inl rfl) (nb rfl) ?_;cbv;iterate 2 try(rw[hb16];cbv)
  obtain rfl:=Option.some.inj h;exact ARet.mk trivial hX.symm
 rw[ab hb11] at h;cbv;obtain⟨x15,hx15,h⟩:=ae h;obtain⟨x15_Place,x15_At⟩:=x15;try dsimp only at h
 refine ACall.mk _ _ rfl (hF _ _ _ (iB hg ht hx15)) (.inl rfl) (nb rfl) ?_;cbv;obtain⟨x16,hx16,h⟩:=ae h;obtain⟨x16_Place,x16_At⟩:=x16;try dsimp only at h
 refine ACall.mk _ _ rfl (hF _ _ _ (iT hg ht hx16)) (.inl rfl) (nb rfl) ?_;cbv;have hb12:x4_2=true∨x4_2=false:=by cases x4_2<;>simp
 rcases hb12 with hb12|hb12
 ·rw[ab hb12] at h;have hK_:=h;subst hb12;have h:=hK_;clear hK_;cbv;iterate 3 try(rw[hb12];cbv)
  cases hb13:(all [(eq x4_1_Thing x2_2_Thing),(eq x4_1_At x2_2_At),(eq x4_1_Kind x2_2_Kind),(seq x4_1_Place x2_2_Place),(eq x4_1_Trip_Leg x2_2_Trip_Leg),(eq x4_1_Trip_Day x2_2_Trip_Day)])
  ·rw[aa hb13] at h;cbv;iterate 7 try(rw[hb13];cbv)
   obtain rfl:=Option.some.inj h;exact ARet.mk trivial hX.symm
  rw[ab hb13] at h;cbv;try(rw[hb13];cbv)
  obtain⟨x17,hx17,h⟩:=ae h;try dsimp only at h
  refine ACallR.mk _ _ (.c (.r (.s 1 (r_S x17)))) rfl (hF _ _ _ (eE hg ht hx17)) (.inl rfl) (nb rfl) (by cbv;(try simp only[hrda_S])) ?_;cbv;iterate 3 try(rw[hb13];cbv)
  obtain⟨x18,hx18,h⟩:=ae h;try dsimp only at h
  refine ACall.mk _ _ rfl (hF _ _ _ (eY hg ht hx18)) (.inl rfl) (nb rfl) ?_;cbv;try(rw[hb13];cbv)
  obtain⟨x19,hx19,h⟩:=aj h;try dsimp only at h
  refine ACall.mk _ _ rfl (hF _ _ _ (pJ hg ht hx19)) (.inl rfl) (nb rfl) ?_;cbv;iterate 2 try(rw[hb13];cbv)
  cases hb14:(le 0 x19)
  rotate_left
  ·rw[ab hb14] at h;cbv;iterate 5 try(rw[hb14];cbv)
   obtain rfl:=Option.some.inj h;exact ARet.mk trivial hX.symm
  rw[aa hb14] at h;cbv;iterate 5 try(rw[hb14];cbv)
  obtain rfl:=Option.some.inj h;exact ARet.mk trivial hX.symm
 rw[aa hb12] at h;have hK_:=h;subst hb12;have h:=hK_;clear hK_;cbv;iterate 3 try(rw[hb12];cbv)
 obtain rfl:=Option.some.inj h;exact ARet.mk trivial hX.symm
end Go.Vs
