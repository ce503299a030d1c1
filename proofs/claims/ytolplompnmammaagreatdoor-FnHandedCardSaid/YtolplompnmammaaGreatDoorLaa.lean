/- Part of the proofs of this seat's laws: Laa. No condition. -/
import Derived.Test.YtolplompnmammaaGreatDoorTy
import Derived.Test.YtolplompnmammaaGreatDoorTIRall
set_option linter.unusedVariables false
set_option linter.unusedSimpArgs false
set_option linter.unusedSectionVars false
namespace Go.Vs
set_option maxRecDepth 100000
def ir4:J:=js [jm 2 kf] [0] (js [jm 3 0,jq 4 (.len false 3),jb 5 .gtr .i 4 (ki 4096),jm 2 5] [2] .ret)
def rv4:List RV:=[.t 2]
open Go.Proofs Go.IntWalk
set_option linter.unusedVariables false
set_option maxHeartbeats 4000000
def rZ (g:G) (t:TE) (a0:List Int):Bool:=
 (g.lt 4096 (g.llen (t.r_U8 a0)))
theorem CY {g:G} {t:TE} {a0:List Int} {r:Bool} (hg:g=G.real) (ht:t=TE.real) (h:rZ g t a0=r):Fn Tryz.prog 4 [.c (.s 1 (t.r_U8 a0))] (.c (.r (.v (.bool r)))):=by
 obtain⟨X,hX⟩:=aE (.c (.r (.v (.bool r))):X);rw[←hX];refine aB (rvs:=rv4) (j:=ir4) Tryz.func4 rfl (by kernel_rfl) (nb rfl) (by kernel_rfl) af ?_;intro g2 F hg2 hF;obtain rfl:g2=g:=hg2.unique.trans hg.symm;clear hg2;obtain⟨_⟩:=g2;obtain⟨_⟩:=t
 unfold rZ at h;try dsimp only at h
 cbv;subst h;exact ARet.mk trivial hX.symm
def ir13:J:=js [jq 2 (.mv (.k (.c .un)))] [0] (js [jm 5 0,jq 6 (.len false 5),jb 7 .mul .i (ki 3) 6,jb 8 .add .i (ki 744201) 7,jm 3 8] [0,3] (.seq (js [jm 4 (ki 0)] [0,3,4] (.bl 0 (.seq (js [jm 9 4,jm 10 0,jq 11 (.len false 10),jb 12 .lss .i 9 11,jm 13 12,ju 14 13 (.mv 4),ju 15 13 (.bin .lss .i 14 (ki 4000)),jq 16 (.pick 13 15 kf)] [0,3,4,16] (.cond 16 .skip (.exit 0))) (.seq (.block 1 (.reg none [jm 19 3,jb 20 .mul .i 19 (ki 167),jm 21 0,jm 22 4,ja 23 1 21 22,jk 24 23,jq 25 (.cvt .i64 24),jb 26 .add .i 20 25,jb 27 .add .i 26 (ki 29),jb 28 .and .i 27 (ki 1073741823),jm 3 28] [0,3,4])) (.reg none [jm 17 4,jb 18 .add .i 17 (ki 1),jm 4 18] [0,3,4]))))) (js [jm 29 0,jm 30 3,jq 31 (.bld [.n 1,.r (.v (.int .i64 0)),.r (.v (.int .i64 0))] [(0,1,29),(2,1,30)]),jq 32 (.box 31),jm 2 32] [2] .ret)))
def rv13:List RV:=[.t 2]
def iH (g:G) (t:TE):List Int→Int→Int→Int
 |[],v2,v1=>
  v1
 |z1::ls1,v2,v1=>
  br (g.lt v2 4000)
  (
   iH g t ls1 (g.wrap .i64 (g.add v2 1)) (g.band .i64 (g.wrap .i64 (g.add (g.wrap .i64 (g.add (g.wrap .i64 (g.mul v1 167)) (g.wrap .i64 z1))) 29)) 1073741823))
  (
   v1)
def pL (g:G) (t:TE) (a0:List Int):Cur:=
 lP (iH g t a0 0 (g.wrap .i64 (g.add 744201 (g.wrap .i64 (g.mul 3 (g.llen (t.r_U8 a0))))))) fun y1=>
 (Cur.mk a0 0 y1)
theorem zU {g:G} {t:TE} {a0:List Int} {r:Cur} (hg:g=G.real) (ht:t=TE.real) (h:pL g t a0=r):Fn Tryz.prog 13 [.c (.s 1 (t.r_U8 a0))] (.p (Cur.ds t r)):=by
 obtain⟨X,hX⟩:=aE (.p (Cur.ds t r):X);rw[←hX];refine aB (rvs:=rv13) (j:=ir13) Tryz.func13 rfl (by kernel_rfl) (nb rfl) (by kernel_rfl) af ?_;intro g2 F hg2 hF;obtain rfl:g2=g:=hg2.unique.trans hg.symm;clear hg2;obtain⟨wrap,lt,_,_,_,_,band,_,_,_,_,_,_,add,_,mul,_,_,_,_,_,llen⟩:=g2;obtain⟨r_U8⟩:=t
 unfold pL at h;try dsimp only at h
 cbv;obtain⟨o1,ho1,h⟩:=ah h;try dsimp only at h
 try rw[hg] at ho1
 try rw[ht] at ho1
 refine ABL.mk {p:Nat×Int×Int//p.1≤a0.length∧p.2.1=((p.1:Nat):Int)∧iH G.real TE.real (List.drop p.1 a0) p.2.1 p.2.2=o1} (fun⟨⟨k1,v2,v1⟩,_⟩=>({sl:=[(0,.c (.r (.s 1 (r_U8 a0)))),(3,.c (.r (.v (.int .i64 v1)))),(4,.c (.r (.v (.int .i64 v2))))],tab:=[]}:St)) 0 (fun p=>a0.length-p.1.1) ⟨(0,0,(wrap .i64 (add 744201 (wrap .i64 (mul 3 (llen (r_U8 a0))))))),Nat.zero_le _,rfl,ho1⟩ (Int) (fun y1=>({sl:=[(0,.c (.r (.s 1 (r_U8 a0)))),(3,.c (.r (.v (.int .i64 y1))))],tab:=[]}:St)) 0 (fun y=>o1=y) ?_ ?_ ?_
 ·refine Wk.of [] rfl rfl ?_ ?_
  ·cbv;all_goals exact⟨⟨_,rfl,rfl⟩,⟨_,rfl,rfl⟩,⟨_,rfl,rfl⟩,trivial⟩
  cbv;all_goals exact trivial
 ·rintro⟨⟨k1,v2,v1⟩,hk1,hi1,h_1⟩ hq1;have hm1:=(hq1.1 0 _ _ rfl);try dsimp only at hk1 hi1 h_1
  clear hq1;cbv
  by_cases hc1_:k1<a0.length
  ·have hb1:lt v2 (llen (r_U8 a0))=true:=vH hg ht hi1 hc1_;have hs1:=Bn hg ht hi1 hc1_ hm1;obtain⟨z1,hz1⟩:=aW hc1_;rw[aD hz1] at h_1;rw[iH] at h_1;try rw[←hg] at h_1
   try rw[←ht] at h_1
   try dsimp only at h_1
   rw[hb1];cbv;iterate 2 try(rw[hb1];cbv)
   cases hb2:(lt v2 4000)
   ·rw[aa hb2] at h_1;cbv;refine⟨v1,Wk.of [] rfl rfl ?_ ?_,h_1.symm⟩
    ·cbv;all_goals exact⟨⟨_,rfl,rfl⟩,⟨_,rfl,rfl⟩,trivial⟩
    cbv;all_goals exact trivial
   rw[ab hb2] at h_1;cbv;refine AStep.mk (f8 hi1) ?_;cbv;refine AGet.mk _ (zi hg ht hi1 hz1) ?_;cbv;try rw[hg] at h_1
   try rw[ht] at h_1
   refine⟨⟨(k1+1,(wrap .i64 (add v2 1)),(band .i64 (wrap .i64 (add (wrap .i64 (add (wrap .i64 (mul v1 167)) (wrap .i64 z1))) 29)) 1073741823)),hc1_,hs1,h_1⟩,Wk.of [] rfl rfl ?_ ?_,a7 hc1_⟩
   ·cbv;all_goals exact⟨⟨_,rfl,rfl⟩,⟨_,rfl,rfl⟩,⟨_,rfl,rfl⟩,trivial⟩
   cbv;all_goals exact trivial
  have hb1:lt v2 (llen (r_U8 a0))=false:=tz hg ht hi1 hc1_;rw[List.drop_of_length_le (Nat.le_of_not_lt hc1_)] at h_1;rw[iH] at h_1;try rw[←hg] at h_1
  try rw[←ht] at h_1
  try dsimp only at h_1
  rw[hb1];cbv;iterate 2 try(rw[hb1];cbv)
  refine⟨v1,Wk.of [] rfl rfl ?_ ?_,h_1.symm⟩
  ·cbv;all_goals exact⟨⟨_,rfl,rfl⟩,⟨_,rfl,rfl⟩,trivial⟩
  cbv;all_goals exact trivial
 rintro y1 hy1;replace hy1:=hy1.symm;subst hy1;try dsimp only[lr,lrL,lrp,a9] at h
 cbv;subst h;exact ARet.mk trivial hX.symm
def ir33:J:=js [jm 2 (ki 0)] [0] (js [jm 4 0,jm 5 0,jq 6 (.nilc 5),jf 7 2 6,jk 8 7,jb 9 .mul .i 8 (ki 6364136223846793005),jb 10 .add .i 9 (ki 1442695040888963407),jq 11 (.nilc 4),jf 12 2 11,jp (.st 1 12 10)] [0] (.seq (.reg (some [[],[0],[0,1],[0,1,2],[0,1,2,3],[],[5],[5,6],[5,6,7],[5,6,7,8],[0,1,2,3,4,5,6,7,8,9],[0,1,2,3,4,5,6,7,8,9,10],[0,1,2,3,4,5,6,7,8,9,10,11]]) [jm 13 0,jq 14 (.nilc 13),jf 15 2 14,jk 16 15,jq 17 (.bin .shr .i 16 (.k (.c (.r (.v (.int .u64 35)))))),jm 18 0,jq 19 (.nilc 18),jf 20 2 19,jk 21 20,jq 22 (.bin .shr .i 21 (.k (.c (.r (.v (.int .u64 45)))))),jb 23 .xor .i 17 22,jb 24 .and .i 23 (ki 255),jm 3 24] [0,3]) (.seq (.seq (.reg (some [[],[0],[0,1],[0,1,2],[],[4],[4,5],[4,5,6],[4,5,6,7],[0,1,2,3,4,5,6,7,8]]) [jm 25 0,jq 26 (.nilc 25),jf 27 1 26,jk 28 27,jm 29 0,jq 30 (.nilc 29),jf 31 0 30,jk 32 31,jq 33 (.len false 32),jb 34 .lss .i 28 33] [0,3,34]) (.cond 34 (.seq (.reg (some [[],[],[1],[1,2],[1,2,3],[],[5],[5,6],[5,6,7],[1,2,3,4,5,6,7,8],[1,2,3,4,5,6,7,8,9],[1,2,3,4,5,6,7,8,9,10],[0,1,2,3,4,5,6,7,8,9,10,11],[0,1,2,3,4,5,6,7,8,9,10,11,12],[0,1,2,3,4,5,6,7,8,9,10,11,12,13]]) [jm 35 3,jm 36 0,jq 37 (.nilc 36),jf 38 0 37,jk 39 38,jm 40 0,jq 41 (.nilc 40),jf 42 1 41,jk 43 42,ja 44 1 39 43,jk 45 44,jq 46 (.cvt .i64 45),jb 47 .add .i 35 46,jb 48 .and .i 47 (ki 255),jm 3 48] [0,3]) (.reg none [jm 49 0,jm 50 0,jq 51 (.nilc 50),jf 52 1 51,jk 53 52,jb 54 .add .i 53 (ki 1),jq 55 (.nilc 49),jf 56 1 55,jp (.st 1 56 54)] [3])) .skip)) (js [jm 57 3,jm 2 57] [2] .ret))))
def rv33:List RV:=[.t 2]
def gV (g:G) (t:TE) (a0:Cur):Option (Int×Cur):=
 br (g.lt a0.i (g.llen (t.r_U8 a0.b)))
 (
  gd (((0:Int)≤a0.i))<|
  gt a0.b (g.nat a0.i) fun x1=>
  some (((g.band .i64 (g.wrap .i64 (g.add (g.band .i64 (g.bxor .i64 (g.shr .i64 (g.wrap .i64 (g.add (g.wrap .i64 (g.mul a0.h 6364136223846793005)) 1442695040888963407)) 35) (g.shr .i64 (g.wrap .i64 (g.add (g.wrap .i64 (g.mul a0.h 6364136223846793005)) 1442695040888963407)) 45)) 255) (g.wrap .i64 x1))) 255),(Cur.mk a0.b (g.wrap .i64 (g.add a0.i 1)) (g.wrap .i64 (g.add (g.wrap .i64 (g.mul a0.h 6364136223846793005)) 1442695040888963407))))))
 (
  some (((g.band .i64 (g.bxor .i64 (g.shr .i64 (g.wrap .i64 (g.add (g.wrap .i64 (g.mul a0.h 6364136223846793005)) 1442695040888963407)) 35) (g.shr .i64 (g.wrap .i64 (g.add (g.wrap .i64 (g.mul a0.h 6364136223846793005)) 1442695040888963407)) 45)) 255),(Cur.mk a0.b a0.i (g.wrap .i64 (g.add (g.wrap .i64 (g.mul a0.h 6364136223846793005)) 1442695040888963407))))))
theorem kc {g:G} {t:TE} {a0:Cur} {r:Int×Cur} (hg:g=G.real) (ht:t=TE.real) (h:gV g t a0=some r):FnM Tryz.prog 33 (.p (Cur.ds t a0)) [] (.c (.r (.v (.int .i64 r.1)))) (.p (Cur.ds t r.2)):=by
 obtain⟨X,hX⟩:=aE (.c (.r (.v (.int .i64 r.1))):X);obtain⟨Y,hY⟩:=aE (.p (Cur.ds t r.2):AM);rw[←hX,←hY];refine eM (rvs:=rv33) (j:=ir33) Tryz.func33 rfl (by kernel_rfl) (nb rfl) (by kernel_rfl) af ?_;intro g2 F hg2 hF;obtain rfl:g2=g:=hg2.unique.trans hg.symm;clear hg2;obtain⟨_,lt,_,_,_,_,_,_,_,_,_,_,_,_,_,_,_,_,_,_,_,llen⟩:=g2;obtain⟨r_U8⟩:=t
 obtain⟨a0_b,a0_i,a0_h⟩:=a0;unfold gV at h;try dsimp only at h
 cbv;refine AStep.mk (by decide) ?_;cbv;refine AStep.mk (by decide) ?_;cbv
 cases hb1:(lt a0_i (llen (r_U8 a0_b)))
 ·rw[aa hb1] at h;cbv;obtain rfl:=Option.some.inj h;exact ARetM.mk trivial hX.symm hY.symm
 rw[ab hb1] at h;cbv;obtain⟨hc1,h⟩:=aj h;refine AStep.mk hc1 ?_;cbv;obtain⟨x1,hx1,h⟩:=aP h;try dsimp only at h
 refine AGet.mk _ (vL hg ht hx1) ?_;cbv;obtain rfl:=Option.some.inj h;exact ARetM.mk trivial hX.symm hY.symm
def ir15:J:=js [jm 4 (ki 0)] [0,1] (.seq (js [jm 8 1,jb 9 .leq .i 8 (ki 0)] [0,1,9] (.cond 9 (js [jm 4 (ki 0)] [4] .ret) .skip)) (.seq (js [jm 10 1,jb 11 .leq .i 10 (ki 256)] [0,1,11] (.cond 11 (js [jm 12 0,jq 13 (.callm 33 true 12 []),jm 14 1,jb 15 .rem .i 13 14,jm 4 15] [4] .ret) .skip)) (js [jm 16 0,jq 17 (.callm 33 true 16 []),jm 5 17] [0,1,5] (js [jm 18 0,jq 19 (.callm 33 true 18 []),jm 6 19] [0,1,5,6] (js [jm 20 0,jq 21 (.callm 33 true 20 []),jm 7 21] [1,5,6,7] (js [jm 22 5,jb 23 .mul .i 22 (ki 65536),jm 24 6,jb 25 .mul .i 24 (ki 256),jb 26 .add .i 23 25,jm 27 7,jb 28 .add .i 26 27,jm 29 1,jb 30 .rem .i 28 29,jm 4 30] [4] .ret))))))
def rv15:List RV:=[.t 4]
def aG (g:G) (t:TE) (a0:Cur) (a1:Int):Option (Int×Cur):=
 br (g.le a1 0)
 (
  some ((0,a0)))
 (
  br (g.le a1 256)
  (
   cl (gV g t a0) fun x1=>
   gd ((a1≠0))<|
   some (((g.rem x1.1 a1),(Cur.mk x1.2.b x1.2.i x1.2.h))))
  (
   cl (gV g t a0) fun x2=>
   cl (gV g t (Cur.mk x2.2.b x2.2.i x2.2.h)) fun x3=>
   cl (gV g t (Cur.mk x3.2.b x3.2.i x3.2.h)) fun x4=>
   gd ((a1≠0))<|
   some (((g.rem (g.wrap .i64 (g.add (g.wrap .i64 (g.add (g.wrap .i64 (g.mul x2.1 65536)) (g.wrap .i64 (g.mul x3.1 256)))) x4.1)) a1),(Cur.mk x4.2.b x4.2.i x4.2.h)))))
theorem ay {g:G} {t:TE} {a0:Cur} {a1:Int} {r:Int×Cur} (hg:g=G.real) (ht:t=TE.real) (h:aG g t a0 a1=some r):FnM Tryz.prog 15 (.p (Cur.ds t a0)) [.c (.v (.int .i64 a1))] (.c (.r (.v (.int .i64 r.1)))) (.p (Cur.ds t r.2)):=by
 obtain⟨X,hX⟩:=aE (.c (.r (.v (.int .i64 r.1))):X);obtain⟨Y,hY⟩:=aE (.p (Cur.ds t r.2):AM);rw[←hX,←hY];refine eM (rvs:=rv15) (j:=ir15) Tryz.func15 rfl (by kernel_rfl) (nb rfl) (by kernel_rfl) af ?_;intro g2 F hg2 hF;obtain rfl:g2=g:=hg2.unique.trans hg.symm;clear hg2;obtain⟨_,_,le⟩:=g2;obtain⟨_⟩:=t
 obtain⟨a0_b,a0_i,a0_h⟩:=a0;unfold aG at h;try dsimp only at h
 cbv
 cases hb1:(le a1 0)
 rotate_left
 ·rw[ab hb1] at h;cbv;obtain rfl:=Option.some.inj h;exact ARetM.mk trivial hX.symm hY.symm
 rw[aa hb1] at h;cbv
 cases hb2:(le a1 256)
 rotate_left
 ·rw[ab hb2] at h;cbv;obtain⟨x1,hx1,h⟩:=ac h;obtain⟨x1_1,⟨x1_2_b,x1_2_i,x1_2_h⟩⟩:=x1;try dsimp only at h
  refine ACallM.mk _ _ _ _ rfl rfl (hF _ _ _ (kc hg ht hx1)) rfl (nb rfl) (nb rfl) ?_;cbv;obtain⟨hc1,h⟩:=aj h;refine AStep.mk hc1 ?_;cbv;obtain rfl:=Option.some.inj h;exact ARetM.mk trivial hX.symm hY.symm
 rw[aa hb2] at h;cbv;obtain⟨x2,hx2,h⟩:=ac h;obtain⟨x2_1,⟨x2_2_b,x2_2_i,x2_2_h⟩⟩:=x2;try dsimp only at h
 refine ACallM.mk _ _ _ _ rfl rfl (hF _ _ _ (kc hg ht hx2)) rfl (nb rfl) (nb rfl) ?_;cbv;obtain⟨x3,hx3,h⟩:=ac h;obtain⟨x3_1,⟨x3_2_b,x3_2_i,x3_2_h⟩⟩:=x3;try dsimp only at h
 refine ACallM.mk _ _ _ _ rfl rfl (hF _ _ _ (kc hg ht hx3)) rfl (nb rfl) (nb rfl) ?_;cbv;obtain⟨x4,hx4,h⟩:=ac h;obtain⟨x4_1,⟨x4_2_b,x4_2_i,x4_2_h⟩⟩:=x4;try dsimp only at h
 refine ACallM.mk _ _ _ _ rfl rfl (hF _ _ _ (kc hg ht hx4)) rfl (nb rfl) (nb rfl) ?_;cbv;obtain⟨hc2,h⟩:=aj h;refine AStep.mk hc2 ?_;cbv;obtain rfl:=Option.some.inj h;exact ARetM.mk trivial hX.symm hY.symm
def ir29:J:=js [jm 4 kf] [0,1] (js [jm 5 0,jm 6 1,jq 7 (.callm 15 true 5 [6]),jb 8 .eql .i 7 (ki 0),jm 4 8] [4] .ret)
def rv29:List RV:=[.t 4]
def ct (g:G) (t:TE) (a0:Cur) (a1:Int):Option (Bool×Cur):=
 cl (aG g t a0 a1) fun x1=>
 some (((g.eq x1.1 0),(Cur.mk x1.2.b x1.2.i x1.2.h)))
theorem cd {g:G} {t:TE} {a0:Cur} {a1:Int} {r:Bool×Cur} (hg:g=G.real) (ht:t=TE.real) (h:ct g t a0 a1=some r):FnM Tryz.prog 29 (.p (Cur.ds t a0)) [.c (.v (.int .i64 a1))] (.c (.r (.v (.bool r.1)))) (.p (Cur.ds t r.2)):=by
 obtain⟨X,hX⟩:=aE (.c (.r (.v (.bool r.1))):X);obtain⟨Y,hY⟩:=aE (.p (Cur.ds t r.2):AM);rw[←hX,←hY];refine eM (rvs:=rv29) (j:=ir29) Tryz.func29 rfl (by kernel_rfl) (nb rfl) (by kernel_rfl) af ?_;intro g2 F hg2 hF;obtain rfl:g2=g:=hg2.unique.trans hg.symm;clear hg2;obtain⟨_⟩:=g2;obtain⟨_⟩:=t
 obtain⟨a0_b,a0_i,a0_h⟩:=a0;unfold ct at h;try dsimp only at h
 cbv;obtain⟨x1,hx1,h⟩:=ac h;obtain⟨x1_1,⟨x1_2_b,x1_2_i,x1_2_h⟩⟩:=x1;try dsimp only at h
 refine ACallM.mk _ _ _ _ rfl rfl (hF _ _ _ (ay hg ht hx1)) rfl (nb rfl) (nb rfl) ?_;cbv;obtain rfl:=Option.some.inj h;exact ARetM.mk trivial hX.symm hY.symm
def ir31:J:=js [jm 4 (ki 0)] [0,1] (js [jm 5 1,jm 6 0,jm 7 1,jq 8 (.len false 7),jq 9 (.callm 15 true 6 [8]),ja 10 1 5 9,jk 11 10,jm 4 11] [4] .ret)
def rv31:List RV:=[.t 4]
def eX (g:G) (t:TE) (a0:Cur) (a1:List Int):Option (Int×Cur):=
 cl (aG g t a0 (g.llen (t.r_I64 a1))) fun x1=>
 gd (((0:Int)≤x1.1))<|
 gt a1 (g.nat x1.1) fun x2=>
 some ((x2,(Cur.mk x1.2.b x1.2.i x1.2.h)))
theorem eP {g:G} {t:TE} {a0:Cur} {a1:List Int} {r:Int×Cur} (hg:g=G.real) (ht:t=TE.real) (h:eX g t a0 a1=some r):FnM Tryz.prog 31 (.p (Cur.ds t a0)) [.c (.s 1 (t.r_I64 a1))] (.c (.r (.v (.int .i64 r.1)))) (.p (Cur.ds t r.2)):=by
 obtain⟨X,hX⟩:=aE (.c (.r (.v (.int .i64 r.1))):X);obtain⟨Y,hY⟩:=aE (.p (Cur.ds t r.2):AM);rw[←hX,←hY];refine eM (rvs:=rv31) (j:=ir31) Tryz.func31 rfl (by kernel_rfl) (nb rfl) (by kernel_rfl) af ?_;intro g2 F hg2 hF;obtain rfl:g2=g:=hg2.unique.trans hg.symm;clear hg2;obtain⟨_⟩:=g2;obtain⟨_⟩:=t
 obtain⟨a0_b,a0_i,a0_h⟩:=a0;unfold eX at h;try dsimp only at h
 cbv;obtain⟨x1,hx1,h⟩:=ac h;obtain⟨x1_1,⟨x1_2_b,x1_2_i,x1_2_h⟩⟩:=x1;try dsimp only at h
 refine ACallM.mk _ _ _ _ rfl rfl (hF _ _ _ (ay hg ht hx1)) rfl (nb rfl) (nb rfl) ?_;cbv;obtain⟨hc1,h⟩:=aj h;refine AStep.mk hc1 ?_;cbv;obtain⟨x2,hx2,h⟩:=aP h;try dsimp only at h
 refine AGet.mk _ (fM hg ht hx2) ?_;cbv;obtain rfl:=Option.some.inj h;exact ARetM.mk trivial hX.symm hY.symm
def ir66 (s_k0:ByteArray):J:=js [jq 4 (.mv (.k (.c (.r (.v (.string s_k0))))))] [0,1] (js [jm 5 1,jm 6 0,jm 7 1,jq 8 (.len false 7),jq 9 (.callm 15 true 6 [8]),ja 10 1 5 9,jk 11 10,jm 4 11] [4] .ret)
def rv66:List RV:=[.t 4]
def jZ (g:G) (t:TE) (a0:Cur) (a1:List ByteArray):Option (ByteArray×Cur):=
 cl (aG g t a0 (g.llen (t.r_S a1))) fun x1=>
 gd (((0:Int)≤x1.1))<|
 gt a1 (g.nat x1.1) fun x2=>
 some ((x2,(Cur.mk x1.2.b x1.2.i x1.2.h)))
theorem oG {g:G} {t:TE} {a0:Cur} {a1:List ByteArray} {r:ByteArray×Cur} (hg:g=G.real) (ht:t=TE.real) (h:jZ g t a0 a1=some r):FnM Tryz.prog 66 (.p (Cur.ds t a0)) [.c (.s 1 (t.r_S a1))] (.c (.r (.v (.string r.1)))) (.p (Cur.ds t r.2)):=by
 obtain⟨X,hX⟩:=aE (.c (.r (.v (.string r.1))):X);obtain⟨Y,hY⟩:=aE (.p (Cur.ds t r.2):AM);rw[←hX,←hY];refine eM (rvs:=rv66) (j:=(ir66 str_k0)) Tryz.func66 rfl (by kernel_rfl) (nb rfl) (by kernel_rfl) af ?_;intro g2 F hg2 hF;obtain rfl:g2=g:=hg2.unique.trans hg.symm;clear hg2;obtain⟨_⟩:=g2;obtain⟨_⟩:=t
 obtain⟨a0_b,a0_i,a0_h⟩:=a0;unfold jZ at h;try dsimp only at h
 obtain⟨s_k0,hs_k0⟩:∃s,str_k0=s:=⟨_,rfl⟩;try rw[hs_k0] at h
 rw[hs_k0];cbv;obtain⟨x1,hx1,h⟩:=ac h;obtain⟨x1_1,⟨x1_2_b,x1_2_i,x1_2_h⟩⟩:=x1;try dsimp only at h
 refine ACallM.mk _ _ _ _ rfl rfl (hF _ _ _ (ay hg ht hx1)) rfl (nb rfl) (nb rfl) ?_;cbv;obtain⟨hc1,h⟩:=aj h;refine AStep.mk hc1 ?_;cbv;obtain⟨x2,hx2,h⟩:=aP h;try dsimp only at h
 refine AGet.mk _ (ut hg ht hx2) ?_;cbv;obtain rfl:=Option.some.inj h;exact ARetM.mk trivial hX.symm hY.symm
def ir65 (s_k0 s_k1 s_k2 s_k3 s_k4 s_k5 s_k6 s_k7:ByteArray):J:=js [jq 2 (.mv (.k (.c (.r (.v (.string s_k0))))))] [0] (js [jm 3 0,jq 4 (.bslr 1 [(.k (.c (.r (.v (.string s_k1))))),(.k (.c (.r (.v (.string s_k2))))),(.k (.c (.r (.v (.string s_k3))))),(.k (.c (.r (.v (.string s_k4))))),(.k (.c (.r (.v (.string s_k5))))),(.k (.c (.r (.v (.string s_k6))))),(.k (.c (.r (.v (.string s_k7)))))]),jq 5 (.callm 66 true 3 [4]),jm 2 5] [2] .ret)
def rv65:List RV:=[.t 2]
def gz (g:G) (t:TE) (a0:Cur):Option (ByteArray×Cur):=
 lP ([iG,k9,lp,kY,wN,w6,wT]) fun(l1:List ByteArray)=>
 cl (jZ g t a0 l1) fun x1=>
 some ((x1.1,(Cur.mk x1.2.b x1.2.i x1.2.h)))
theorem kG {g:G} {t:TE} {a0:Cur} {r:ByteArray×Cur} (hg:g=G.real) (ht:t=TE.real) (h:gz g t a0=some r):FnM Tryz.prog 65 (.p (Cur.ds t a0)) [] (.c (.r (.v (.string r.1)))) (.p (Cur.ds t r.2)):=by
 obtain⟨X,hX⟩:=aE (.c (.r (.v (.string r.1))):X);obtain⟨Y,hY⟩:=aE (.p (Cur.ds t r.2):AM);rw[←hX,←hY];refine eM (rvs:=rv65) (j:=(ir65 str_k0 iG k9 lp kY wN w6 wT)) Tryz.func65 rfl (by kernel_rfl) (nb rfl) (by kernel_rfl) af ?_;intro g2 F hg2 hF;obtain rfl:g2=g:=hg2.unique.trans hg.symm;clear hg2;obtain⟨_⟩:=g2
 obtain⟨_,_,_,_,_,_,_,_,r_S⟩:=t;obtain⟨a0_b,a0_i,a0_h⟩:=a0;unfold gz at h;try dsimp only at h
 obtain⟨s_k0,hs_k0⟩:∃s,str_k0=s:=⟨_,rfl⟩;try rw[hs_k0] at h
 rw[hs_k0];obtain⟨s_k1,hs_k1⟩:∃s,iG=s:=⟨_,rfl⟩;try rw[hs_k1] at h
 rw[hs_k1];obtain⟨s_k2,hs_k2⟩:∃s,k9=s:=⟨_,rfl⟩;try rw[hs_k2] at h
 rw[hs_k2];obtain⟨s_k3,hs_k3⟩:∃s,lp=s:=⟨_,rfl⟩;try rw[hs_k3] at h
 rw[hs_k3];obtain⟨s_k4,hs_k4⟩:∃s,kY=s:=⟨_,rfl⟩;try rw[hs_k4] at h
 rw[hs_k4];obtain⟨s_k5,hs_k5⟩:∃s,wN=s:=⟨_,rfl⟩;try rw[hs_k5] at h
 rw[hs_k5];obtain⟨s_k6,hs_k6⟩:∃s,w6=s:=⟨_,rfl⟩;try rw[hs_k6] at h
 rw[hs_k6];obtain⟨s_k7,hs_k7⟩:∃s,wT=s:=⟨_,rfl⟩;try rw[hs_k7] at h
 rw[hs_k7];cbv;obtain⟨l1,hl1,h⟩:=ah h;try dsimp only at h
 refine AVal.mk (r_S l1) (by rw[←hl1];exact xm hg ht [s_k1,s_k2,s_k3,s_k4,s_k5,s_k6,s_k7]) ?_;cbv;obtain⟨x1,hx1,h⟩:=ac h;obtain⟨x1_1,⟨x1_2_b,x1_2_i,x1_2_h⟩⟩:=x1;try dsimp only at h
 refine ACallM.mk _ _ _ _ rfl rfl (hF _ _ _ (oG hg ht hx1)) rfl (nb rfl) (nb rfl) ?_;cbv;obtain rfl:=Option.some.inj h;exact ARetM.mk trivial hX.symm hY.symm
def ir49 (s_k1 s_k2 s_k3 s_k4:ByteArray):J:=js [jq 2 (.alloc [.r (.v (.string .empty)),.r (.v (.string .empty)),.r (.v (.int .i64 0)),.r (.v (.int .i64 0)),.r (.v (.int .i64 0)),.r (.v (.int .i64 0))])] [0,2] (js [jm 4 0,jq 5 (.callm 65 true 4 []),jm 6 0,jq 7 (.callm 65 true 6 []),jm 8 0,jq 9 (.callm 15 true 8 [(ki 48)]),jb 10 .mul .i (ki 30) 9,jm 11 0,jq 12 (.callm 15 true 11 [(ki 40)]),jb 13 .add .i (ki 1) 12,jb 14 .mul .i (ki 30) 13,jm 15 0,jq 16 (.callm 15 true 15 [(ki 127)]),jb 17 .add .i (ki 1) 16,jm 18 0,jq 19 (.callm 15 true 18 [(ki 60)]),jb 20 .mul .i (ki 1000) 19,jq 21 (.bld [.r (.v (.string .empty)),.r (.v (.string .empty)),.r (.v (.int .i64 0)),.r (.v (.int .i64 0)),.r (.v (.int .i64 0)),.r (.v (.int .i64 0))] [(0,1,5),(1,1,7),(2,1,10),(3,1,14),(4,1,17),(5,1,20)]),jq 3 (.alloc [.r (.v (.string .empty)),.r (.v (.string .empty)),.r (.v (.int .i64 0)),.r (.v (.int .i64 0)),.r (.v (.int .i64 0)),.r (.v (.int .i64 0))]),jp (.st 6 3 21)] [0,2,3] (.seq (.bl 0 (.seq (js [jf 22 0 3,jk 23 22,jf 24 1 3,jk 25 24,jb 26 .eql .s 23 25] [0,2,3,26] (.cond 26 .skip (.exit 0))) (.block 1 (js [jm 27 0,jq 28 (.bslr 1 [(.k (.c (.r (.v (.string s_k1))))),(.k (.c (.r (.v (.string s_k2))))),(.k (.c (.r (.v (.string s_k3)))))]),jq 29 (.callm 66 true 27 [28]),jf 30 1 3,jp (.st 1 30 29)] [0,2,3] (js [jf 31 0 3,jk 32 31,jf 33 1 3,jk 34 33,jb 35 .eql .s 32 34] [0,2,3,35] (.cond 35 (.reg none [jf 36 0 3,jp (.st 1 36 (.k (.c (.r (.v (.string s_k4))))))] [0,2,3]) .skip)))))) (.seq (js [jm 37 0,jq 38 (.callm 29 true 37 [(ki 2)])] [0,2,3,38] (.cond 38 (.reg none [jf 39 4 3,jp (.st 1 39 (ki 127))] [0,2,3]) .skip)) (.seq (js [jm 40 0,jq 41 (.callm 29 true 40 [(ki 9)])] [0,2,3,41] (.cond 41 (.reg none [jm 42 0,jq 43 (.bslr 1 [(ki 1),(ki 1440),(ki 4320)]),jq 44 (.callm 31 true 42 [43]),jf 45 3 3,jp (.st 1 45 44)] [2,3]) .skip)) (js [jl 46 6 3,jp (.st 6 2 46)] [2] .ret)))))
def rv49:List RV:=[.c 2 true 6]
def dH (g:G) (t:TE):Nat→List Int→Int→Int→ByteArray→ByteArray→Option ((List Int)×Int×Int×ByteArray×ByteArray)
 |0,_,_,_,_,_=>none
 |n1+1,v1,v2,v3,v4,v5=>
  br (g.seq v4 v5)
  (
   lP ([iG,k9,lp]) fun(l1:List ByteArray)=>
   cl (jZ g t (Cur.mk v1 v2 v3) l1) fun x7=>
   br (g.seq v4 x7.1)
   (
    dH g t n1 x7.2.b x7.2.i x7.2.h kY x7.1)
   (
    dH g t n1 x7.2.b x7.2.i x7.2.h v4 x7.1))
  (
   some (v1,v2,v3,v4,v5))
def nw (g:G) (t:TE) (a0:Cur):Option (Leg×Cur):=
 cl (gz g t a0) fun x1=>
 cl (gz g t (Cur.mk x1.2.b x1.2.i x1.2.h)) fun x2=>
 cl (aG g t (Cur.mk x2.2.b x2.2.i x2.2.h) 48) fun x3=>
 cl (aG g t (Cur.mk x3.2.b x3.2.i x3.2.h) 40) fun x4=>
 cl (aG g t (Cur.mk x4.2.b x4.2.i x4.2.h) 127) fun x5=>
 cl (aG g t (Cur.mk x5.2.b x5.2.i x5.2.h) 60) fun x6=>
 cl (dH g t 1000000000 x6.2.b x6.2.i x6.2.h x1.1 x2.1) fun y1=>
 cl (ct g t (Cur.mk y1.1 y1.2.1 y1.2.2.1) 2) fun x8=>
 br x8.1
 (
  cl (ct g t (Cur.mk x8.2.b x8.2.i x8.2.h) 9) fun x9=>
  br x9.1
  (
   lP ([1,1440,4320]) fun(l2:List Int)=>
   cl (eX g t (Cur.mk x9.2.b x9.2.i x9.2.h) l2) fun x10=>
   some (((Leg.mk y1.2.2.2.1 y1.2.2.2.2 (g.wrap .i64 (g.mul 30 x3.1)) x10.1 127 (g.wrap .i64 (g.mul 1000 x6.1))),(Cur.mk x10.2.b x10.2.i x10.2.h))))
  (
   some (((Leg.mk y1.2.2.2.1 y1.2.2.2.2 (g.wrap .i64 (g.mul 30 x3.1)) (g.wrap .i64 (g.mul 30 (g.wrap .i64 (g.add 1 x4.1)))) 127 (g.wrap .i64 (g.mul 1000 x6.1))),(Cur.mk x9.2.b x9.2.i x9.2.h)))))
 (
  cl (ct g t (Cur.mk x8.2.b x8.2.i x8.2.h) 9) fun x11=>
  br x11.1
  (
   lP ([1,1440,4320]) fun(l3:List Int)=>
   cl (eX g t (Cur.mk x11.2.b x11.2.i x11.2.h) l3) fun x12=>
   some (((Leg.mk y1.2.2.2.1 y1.2.2.2.2 (g.wrap .i64 (g.mul 30 x3.1)) x12.1 (g.wrap .i64 (g.add 1 x5.1)) (g.wrap .i64 (g.mul 1000 x6.1))),(Cur.mk x12.2.b x12.2.i x12.2.h))))
  (
   some (((Leg.mk y1.2.2.2.1 y1.2.2.2.2 (g.wrap .i64 (g.mul 30 x3.1)) (g.wrap .i64 (g.mul 30 (g.wrap .i64 (g.add 1 x4.1)))) (g.wrap .i64 (g.add 1 x5.1)) (g.wrap .i64 (g.mul 1000 x6.1))),(Cur.mk x11.2.b x11.2.i x11.2.h)))))
theorem Az {g:G} {t:TE} {a0:Cur} {r:Leg×Cur} (hg:g=G.real) (ht:t=TE.real) (h:nw g t a0=some r):FnM Tryz.prog 49 (.p (Cur.ds t a0)) [] (.g (Leg.ds t r.1)) (.p (Cur.ds t r.2)):=by
 obtain⟨X,hX⟩:=aE (.g (Leg.ds t r.1):X);obtain⟨Y,hY⟩:=aE (.p (Cur.ds t r.2):AM);rw[←hX,←hY];refine eM (rvs:=rv49) (j:=(ir49 iG k9 lp kY)) Tryz.func49 rfl (by kernel_rfl) (nb rfl) (by kernel_rfl) af ?_;intro g2 F hg2 hF;obtain rfl:g2=g:=hg2.unique.trans hg.symm;clear hg2;obtain⟨wrap,_,_,_,_,_,_,_,_,_,_,_,_,add,_,mul,_,seq⟩:=g2;obtain⟨r_U8,_,_,_,r_I64,_,_,_,r_S⟩:=t
 obtain⟨a0_b,a0_i,a0_h⟩:=a0;unfold nw at h;try dsimp only at h
 obtain⟨s_k1,hs_k1⟩:∃s,iG=s:=⟨_,rfl⟩;try rw[hs_k1] at h
 rw[hs_k1];obtain⟨s_k2,hs_k2⟩:∃s,k9=s:=⟨_,rfl⟩;try rw[hs_k2] at h
 rw[hs_k2];obtain⟨s_k3,hs_k3⟩:∃s,lp=s:=⟨_,rfl⟩;try rw[hs_k3] at h
 rw[hs_k3];obtain⟨s_k4,hs_k4⟩:∃s,kY=s:=⟨_,rfl⟩;try rw[hs_k4] at h
 rw[hs_k4];cbv;obtain⟨x1,hx1,h⟩:=ac h;obtain⟨x1_1,⟨x1_2_b,x1_2_i,x1_2_h⟩⟩:=x1;try dsimp only at h
 refine ACallM.mk _ _ _ _ rfl rfl (hF _ _ _ (kG hg ht hx1)) rfl (nb rfl) (nb rfl) ?_;cbv;obtain⟨x2,hx2,h⟩:=ac h;obtain⟨x2_1,⟨x2_2_b,x2_2_i,x2_2_h⟩⟩:=x2;try dsimp only at h
 refine ACallM.mk _ _ _ _ rfl rfl (hF _ _ _ (kG hg ht hx2)) rfl (nb rfl) (nb rfl) ?_;cbv;obtain⟨x3,hx3,h⟩:=ac h;obtain⟨x3_1,⟨x3_2_b,x3_2_i,x3_2_h⟩⟩:=x3;try dsimp only at h
 refine ACallM.mk _ _ _ _ rfl rfl (hF _ _ _ (ay hg ht hx3)) rfl (nb rfl) (nb rfl) ?_;cbv;obtain⟨x4,hx4,h⟩:=ac h;obtain⟨x4_1,⟨x4_2_b,x4_2_i,x4_2_h⟩⟩:=x4;try dsimp only at h
 refine ACallM.mk _ _ _ _ rfl rfl (hF _ _ _ (ay hg ht hx4)) rfl (nb rfl) (nb rfl) ?_;cbv;obtain⟨x5,hx5,h⟩:=ac h;obtain⟨x5_1,⟨x5_2_b,x5_2_i,x5_2_h⟩⟩:=x5;try dsimp only at h
 refine ACallM.mk _ _ _ _ rfl rfl (hF _ _ _ (ay hg ht hx5)) rfl (nb rfl) (nb rfl) ?_;cbv;obtain⟨x6,hx6,h⟩:=ac h;obtain⟨x6_1,⟨x6_2_b,x6_2_i,x6_2_h⟩⟩:=x6;try dsimp only at h
 refine ACallM.mk _ _ _ _ rfl rfl (hF _ _ _ (ay hg ht hx6)) rfl (nb rfl) (nb rfl) ?_;cbv;obtain⟨o1,ho1,h⟩:=ac h;try dsimp only at h
 try rw[hg] at ho1
 try rw[ht] at ho1
 refine ABL.mk {p:Nat×(List Int)×Int×Int×ByteArray×ByteArray//dH G.real TE.real p.1 p.2.1 p.2.2.1 p.2.2.2.1 p.2.2.2.2.1 p.2.2.2.2.2=some o1} (fun⟨⟨n1,v1,v2,v3,v4,v5⟩,_⟩=>({sl:=[(0,.c (.p 3 3 0 0)),(2,.c (.p 0 6 0 0)),(3,.c (.p 1 6 0 0))],tab:=[(0,some (.foc 6 [] [.r (.v (.string ByteArray.empty)),.r (.v (.string ByteArray.empty)),.r (.v (.int .i64 0)),.r (.v (.int .i64 0)),.r (.v (.int .i64 0)),.r (.v (.int .i64 0))] [])),(1,some (.foc 6 [] [.r (.v (.string v4)),.r (.v (.string v5)),.r (.v (.int .i64 (wrap .i64 (mul 30 x3_1)))),.r (.v (.int .i64 (wrap .i64 (mul 30 (wrap .i64 (add 1 x4_1)))))),.r (.v (.int .i64 (wrap .i64 (add 1 x5_1)))),.r (.v (.int .i64 (wrap .i64 (mul 1000 x6_1))))] [])),(3,some (.foc 3 [] [.r (.s 1 (r_U8 v1)),.r (.v (.int .i64 v2)),.r (.v (.int .i64 v3))] []))]}:St)) 4 (fun p=>p.1.1) ⟨(1000000000,x6_2_b,x6_2_i,x6_2_h,x1_1,x2_1),ho1⟩ ((List Int)×Int×Int×ByteArray×ByteArray) (fun⟨y1_1,y1_2_1,y1_2_2_1,y1_2_2_2_1,y1_2_2_2_2⟩=>({sl:=[(0,.c (.p 3 3 0 0)),(2,.c (.p 0 6 0 0)),(3,.c (.p 1 6 0 0))],tab:=[(0,some (.foc 6 [] [.r (.v (.string ByteArray.empty)),.r (.v (.string ByteArray.empty)),.r (.v (.int .i64 0)),.r (.v (.int .i64 0)),.r (.v (.int .i64 0)),.r (.v (.int .i64 0))] [])),(1,some (.foc 6 [] [.r (.v (.string y1_2_2_2_1)),.r (.v (.string y1_2_2_2_2)),.r (.v (.int .i64 (wrap .i64 (mul 30 x3_1)))),.r (.v (.int .i64 (wrap .i64 (mul 30 (wrap .i64 (add 1 x4_1)))))),.r (.v (.int .i64 (wrap .i64 (add 1 x5_1)))),.r (.v (.int .i64 (wrap .i64 (mul 1000 x6_1))))] [])),(3,some (.foc 3 [] [.r (.s 1 (r_U8 y1_1)),.r (.v (.int .i64 y1_2_1)),.r (.v (.int .i64 y1_2_2_1))] []))]}:St)) 4 (fun y=>o1=y) ?_ ?_ ?_
 ·refine Wk.of [(0,some 4),(1,some 308),(3,some 3)] rfl rfl ?_ ?_
  ·cbv;all_goals exact⟨⟨_,rfl,rfl⟩,⟨_,rfl,rfl⟩,⟨_,rfl,rfl⟩,trivial⟩
  cbv;all_goals exact⟨⟨_,rfl,_,rfl,rfl,rfl,rfl,rfl,rfl,rfl,trivial⟩,⟨_,rfl,_,rfl,rfl,rfl,rfl,rfl,rfl,rfl,trivial⟩,⟨_,rfl,_,rfl,rfl,rfl,rfl,trivial⟩,trivial⟩
 ·rintro⟨⟨n1,v1,v2,v3,v4,v5⟩,h_1⟩ hq1;try dsimp only at h_1
  clear hq1;rcases n1 with _|n1
  ·rw[dH] at h_1;cases h_1
  rw[dH] at h_1;try rw[←hg] at h_1
  try rw[←ht] at h_1
  try dsimp only at h_1
  try rw[hs_k1] at h_1
  try rw[hs_k2] at h_1
  try rw[hs_k3] at h_1
  try rw[hs_k4] at h_1
  cbv
  cases hb1:(seq v4 v5)
  ·rw[aa hb1] at h_1;cbv;refine⟨(v1,v2,v3,v4,v5),Wk.of [(0,some 0),(1,some 1),(3,some 3)] rfl rfl ?_ ?_,(Option.some.inj h_1).symm⟩
   ·cbv;all_goals exact⟨⟨_,rfl,rfl⟩,⟨_,rfl,rfl⟩,⟨_,rfl,rfl⟩,trivial⟩
   cbv;all_goals exact⟨⟨_,rfl,_,rfl,rfl,rfl,rfl,rfl,rfl,rfl,trivial⟩,⟨_,rfl,_,rfl,rfl,rfl,rfl,rfl,rfl,rfl,trivial⟩,⟨_,rfl,_,rfl,rfl,rfl,rfl,trivial⟩,trivial⟩
  rw[ab hb1] at h_1;cbv;obtain⟨l1,hl1,h_1⟩:=ah h_1;try dsimp only at h_1
  refine AVal.mk (r_S l1) (by rw[←hl1];exact xm hg ht [s_k1,s_k2,s_k3]) ?_;cbv;obtain⟨x7,hx7,h_1⟩:=ac h_1;obtain⟨x7_1,⟨x7_2_b,x7_2_i,x7_2_h⟩⟩:=x7;try dsimp only at h_1
  refine ACallM.mk _ _ _ _ rfl rfl (hF _ _ _ (oG hg ht hx7)) rfl (nb rfl) (nb rfl) ?_;cbv
  cases hb2:(seq v4 x7_1)
  ·rw[aa hb2] at h_1;cbv;try rw[hg] at h_1
   try rw[ht] at h_1
   refine⟨⟨(n1,x7_2_b,x7_2_i,x7_2_h,v4,x7_1),h_1⟩,Wk.of [(0,some 0),(1,some 1),(3,some 3)] rfl rfl ?_ ?_,Nat.lt_succ_self _⟩
   ·cbv;all_goals exact⟨⟨_,rfl,rfl⟩,⟨_,rfl,rfl⟩,⟨_,rfl,rfl⟩,trivial⟩
   cbv;all_goals exact⟨⟨_,rfl,_,rfl,rfl,rfl,rfl,rfl,rfl,rfl,trivial⟩,⟨_,rfl,_,rfl,rfl,rfl,rfl,rfl,rfl,rfl,trivial⟩,⟨_,rfl,_,rfl,rfl,rfl,rfl,trivial⟩,trivial⟩
  rw[ab hb2] at h_1;cbv;try rw[hg] at h_1
  try rw[ht] at h_1
  refine⟨⟨(n1,x7_2_b,x7_2_i,x7_2_h,s_k4,x7_1),h_1⟩,Wk.of [(0,some 0),(1,some 1),(3,some 3)] rfl rfl ?_ ?_,Nat.lt_succ_self _⟩
  ·cbv;all_goals exact⟨⟨_,rfl,rfl⟩,⟨_,rfl,rfl⟩,⟨_,rfl,rfl⟩,trivial⟩
  cbv;all_goals exact⟨⟨_,rfl,_,rfl,rfl,rfl,rfl,rfl,rfl,rfl,trivial⟩,⟨_,rfl,_,rfl,rfl,rfl,rfl,rfl,rfl,rfl,trivial⟩,⟨_,rfl,_,rfl,rfl,rfl,rfl,trivial⟩,trivial⟩
 rintro⟨y1_1,y1_2_1,y1_2_2_1,y1_2_2_2_1,y1_2_2_2_2⟩ hy1;replace hy1:=hy1.symm;subst hy1;try dsimp only[lr,lrL,lrp,a9] at h
 cbv;obtain⟨x8,hx8,h⟩:=ac h;obtain⟨x8_1,⟨x8_2_b,x8_2_i,x8_2_h⟩⟩:=x8;try dsimp only at h
 refine ACallM.mk _ _ _ _ rfl rfl (hF _ _ _ (cd hg ht hx8)) rfl (nb rfl) (nb rfl) ?_;cbv;have hb3:x8_1=true∨x8_1=false:=by cases x8_1<;>simp
 rcases hb3 with hb3|hb3
 ·rw[ab hb3] at h;have hK_:=h;subst hb3;have h:=hK_;clear hK_;cbv;obtain⟨x9,hx9,h⟩:=ac h;obtain⟨x9_1,⟨x9_2_b,x9_2_i,x9_2_h⟩⟩:=x9;try dsimp only at h
  refine ACallM.mk _ _ _ _ rfl rfl (hF _ _ _ (cd hg ht hx9)) rfl (nb rfl) (nb rfl) ?_;cbv;have hb4:x9_1=true∨x9_1=false:=by cases x9_1<;>simp
  rcases hb4 with hb4|hb4
  ·rw[ab hb4] at h;have hK_:=h;subst hb4;have h:=hK_;clear hK_;cbv;obtain⟨l2,hl2,h⟩:=ah h;try dsimp only at h
   refine AVal.mk (r_I64 l2) (by rw[←hl2];exact f6 hg ht [1,1440,4320]) ?_;cbv;obtain⟨x10,hx10,h⟩:=ac h;obtain⟨x10_1,⟨x10_2_b,x10_2_i,x10_2_h⟩⟩:=x10;try dsimp only at h
   refine ACallM.mk _ _ _ _ rfl rfl (hF _ _ _ (eP hg ht hx10)) rfl (nb rfl) (nb rfl) ?_;cbv;obtain rfl:=Option.some.inj h;exact ARetM.mk trivial hX.symm hY.symm
  rw[aa hb4] at h;have hK_:=h;subst hb4;have h:=hK_;clear hK_;cbv;obtain rfl:=Option.some.inj h;exact ARetM.mk trivial hX.symm hY.symm
 rw[aa hb3] at h;have hK_:=h;subst hb3;have h:=hK_;clear hK_;cbv;obtain⟨x11,hx11,h⟩:=ac h;obtain⟨x11_1,⟨x11_2_b,x11_2_i,x11_2_h⟩⟩:=x11;try dsimp only at h
 refine ACallM.mk _ _ _ _ rfl rfl (hF _ _ _ (cd hg ht hx11)) rfl (nb rfl) (nb rfl) ?_;cbv;have hb5:x11_1=true∨x11_1=false:=by cases x11_1<;>simp
 rcases hb5 with hb5|hb5
 ·rw[ab hb5] at h;have hK_:=h;subst hb5;have h:=hK_;clear hK_;cbv;obtain⟨l3,hl3,h⟩:=ah h;try dsimp only at h
  refine AVal.mk (r_I64 l3) (by rw[←hl3];exact f6 hg ht [1,1440,4320]) ?_;cbv;obtain⟨x12,hx12,h⟩:=ac h;obtain⟨x12_1,⟨x12_2_b,x12_2_i,x12_2_h⟩⟩:=x12;try dsimp only at h
  refine ACallM.mk _ _ _ _ rfl rfl (hF _ _ _ (eP hg ht hx12)) rfl (nb rfl) (nb rfl) ?_;cbv;obtain rfl:=Option.some.inj h;exact ARetM.mk trivial hX.symm hY.symm
 rw[aa hb5] at h;have hK_:=h;subst hb5;have h:=hK_;clear hK_;cbv;obtain rfl:=Option.some.inj h;exact ARetM.mk trivial hX.symm hY.symm
def ir26:J:=js [jq 4 (.alloc [.n 6,.n 1,.r (.v (.int .i64 0))])] [0,1,4] (js [jm 8 0,jq 9 (.callm 15 true 8 [(ki 9)]),jb 10 .mul .i (ki 15) 9,jq 11 (.bld [.n 6,.n 1,.r (.v (.int .i64 0))] [(2,1,10)]),jq 5 (.alloc [.n 6,.n 1,.r (.v (.int .i64 0))]),jp (.st 3 5 11)] [0,1,4,5] (.seq (js [jm 12 0,jm 13 1,jq 14 (.callm 15 true 12 [13]),jb 15 .add .i (ki 1) 14,jm 6 15] [0,1,4,5,6] (.bl 0 (.seq (js [jm 16 6,jb 17 .gtr .i 16 (ki 0)] [0,1,4,5,6,17] (.cond 17 .skip (.exit 0))) (.seq (.block 1 (js [jm 20 0,jq 21 (.callm 49 true 20 []),jq 7 (.alloc [.r (.v (.string .empty)),.r (.v (.string .empty)),.r (.v (.int .i64 0)),.r (.v (.int .i64 0)),.r (.v (.int .i64 0)),.r (.v (.int .i64 0))]),jp (.st 6 7 21)] [0,1,4,5,6,7] (js [jf 22 0 5,jk 23 22,jl 24 6 7,jq 25 (.bsl 6 [24]),jq 26 (.app 6 64 true 23 25),jf 27 0 5,jp (.st 1 27 26)] [0,1,4,5,6,7] (js [jm 28 0,jq 29 (.callm 29 true 28 [(ki 3)]),jm 30 29,ju 31 30 (.fa 0 5),ju 32 30 (.ld false 1 31),ju 33 30 (.len false 32),ju 34 30 (.mv 1),ju 35 30 (.bin .lss .i 33 34),jq 36 (.pick 30 35 kf)] [0,1,4,5,6,7,36] (.cond 36 (js [jf 37 0 5,jk 38 37,jf 39 0 5,jk 40 39,jq 41 (.len false 40),jb 42 .sub .i 41 (ki 1),ja 43 6 38 42,jf 44 1 43,jk 45 44,jf 46 0 7,jp (.st 1 46 45)] [0,1,4,5,6,7] (js [jf 47 0 5,jk 48 47,jf 49 0 5,jk 50 49,jq 51 (.len false 50),jb 52 .sub .i 51 (ki 1),ja 53 6 48 52,jf 54 0 53,jk 55 54,jf 56 1 7,jp (.st 1 56 55)] [0,1,4,5,6,7] (.seq (.reg (some [[],[0],[],[2],[2,3],[0,1,2,3,4],[0,1,2,3,4,5],[0,1,2,3,4,5,6],[0,1,2,3,4,5,6,7]]) [jf 57 2 7,jk 58 57,jm 59 0,jq 60 (.callm 15 true 59 [(ki 20)]),jb 61 .mul .i (ki 60) 60,jb 62 .add .i 58 61,jb 63 .rem .i 62 (ki 1440),jf 64 2 7,jp (.st 1 64 63)] [0,1,4,5,6,7]) (.reg none [jf 65 0 5,jk 66 65,jl 67 6 7,jq 68 (.bsl 6 [67]),jq 69 (.app 6 64 true 66 68),jf 70 0 5,jp (.st 1 70 69)] [0,1,4,5,6])))) .skip))))) (.reg none [jm 18 6,jb 19 .sub .i 18 (ki 1),jm 6 19] [0,1,4,5,6]))))) (.seq (js [jm 71 0,jq 72 (.callm 29 true 71 [(ki 2)])] [0,4,5,72] (.cond 72 (.reg none [jm 73 0,jq 74 (.callm 15 true 73 [(ki 3)]),jm 75 0,jq 76 (.callm 15 true 75 [(ki 4)]),jb 77 .add .i (ki 3) 76,jq 78 (.bsl 1 [74,77]),jf 79 1 5,jp (.st 1 79 78)] [4,5]) .skip)) (js [jl 80 3 5,jp (.st 3 4 80)] [4] .ret))))
def rv26:List RV:=[.c 4 true 3]
def cF (g:G) (t:TE) (a1:Int):Nat→List Int→Int→Int→List Leg→Int→Option ((List Int)×Int×Int×List Leg)
 |0,_,_,_,_,_=>none
 |n1+1,v1,v2,v3,w1,v4=>
  br (g.lt 0 v4)
  (
   cl (nw g t (Cur.mk v1 v2 v3)) fun x3=>
   lP ([(Leg.mk x3.1.From x3.1.To x3.1.Start x3.1.Takes x3.1.Days x3.1.Room)]) fun(l1:List Leg)=>
   gd (((w1.length+l1.length)*64≤70368744177664))<|
   lP (w1++l1) fun(l2:List Leg)=>
   cl (ct g t (Cur.mk x3.2.b x3.2.i x3.2.h) 3) fun x4=>
   br x4.1
   (
    br (g.lt (g.int (g.dlen (t.d_Leg l2))) a1)
    (
     gd (((0:Int)≤(g.wrap .i64 (g.sub (g.int (g.dlen (t.d_Leg l2))) 1))∧(g.wrap .i64 (g.sub (g.int (g.dlen (t.d_Leg l2))) 1))<(((g.dlen (t.d_Leg l2)):Nat):Int)))<|
     gt l2 (g.nat (g.wrap .i64 (g.sub (g.int (g.dlen (t.d_Leg l2))) 1))) fun x5=>
     gd (((0:Int)≤(g.wrap .i64 (g.sub (g.int (g.dlen (t.d_Leg l2))) 1))∧(g.wrap .i64 (g.sub (g.int (g.dlen (t.d_Leg l2))) 1))<(((g.dlen (t.d_Leg l2)):Nat):Int)))<|
     cl (aG g t (Cur.mk x4.2.b x4.2.i x4.2.h) 20) fun x6=>
     lP ([(Leg.mk x5.To x5.From (g.rem (g.wrap .i64 (g.add x3.1.Start (g.wrap .i64 (g.mul 60 x6.1)))) 1440) x3.1.Takes x3.1.Days x3.1.Room)]) fun(l3:List Leg)=>
     gd (((l2.length+l3.length)*64≤70368744177664))<|
     lP (l2++l3) fun(l4:List Leg)=>
     cF g t a1 n1 x6.2.b x6.2.i x6.2.h l4 (g.wrap .i64 (g.sub v4 1)))
    (
     cF g t a1 n1 x4.2.b x4.2.i x4.2.h l2 (g.wrap .i64 (g.sub v4 1))))
   (
    cF g t a1 n1 x4.2.b x4.2.i x4.2.h l2 (g.wrap .i64 (g.sub v4 1))))
  (
   some (v1,v2,v3,w1))
def kB (g:G) (t:TE) (a0:Cur) (a1:Int):Option (Network×Cur):=
 cl (aG g t a0 9) fun x1=>
 cl (aG g t (Cur.mk x1.2.b x1.2.i x1.2.h) a1) fun x2=>
 cl (cF g t a1 1000000000 x2.2.b x2.2.i x2.2.h [] (g.wrap .i64 (g.add 1 x2.1))) fun y1=>
 cl (ct g t (Cur.mk y1.1 y1.2.1 y1.2.2.1) 2) fun x7=>
 br x7.1
 (
  cl (aG g t (Cur.mk x7.2.b x7.2.i x7.2.h) 3) fun x8=>
  cl (aG g t (Cur.mk x8.2.b x8.2.i x8.2.h) 4) fun x9=>
  lP ([x8.1,(g.wrap .i64 (g.add 3 x9.1))]) fun(l5:List Int)=>
  some (((Network.mk y1.2.2.2 l5 (g.wrap .i64 (g.mul 15 x1.1))),(Cur.mk x9.2.b x9.2.i x9.2.h))))
 (
  some (((Network.mk y1.2.2.2 [] (g.wrap .i64 (g.mul 15 x1.1))),(Cur.mk x7.2.b x7.2.i x7.2.h))))
theorem xk {g:G} {t:TE} {a0:Cur} {a1:Int} {r:Network×Cur} (hg:g=G.real) (ht:t=TE.real) (h:kB g t a0 a1=some r):FnM Tryz.prog 26 (.p (Cur.ds t a0)) [.c (.v (.int .i64 a1))] (.g (Network.ds t r.1)) (.p (Cur.ds t r.2)):=by
 obtain⟨X,hX⟩:=aE (.g (Network.ds t r.1):X);obtain⟨Y,hY⟩:=aE (.p (Cur.ds t r.2):AM);rw[←hX,←hY];refine eM (rvs:=rv26) (j:=ir26) Tryz.func26 rfl (by kernel_rfl) (nb rfl) (by kernel_rfl) af ?_;intro g2 F hg2 hF;obtain rfl:g2=g:=hg2.unique.trans hg.symm;clear hg2;obtain⟨wrap,lt,_,_,_,rem,_,_,_,_,_,_,int,add,sub,mul,_,_,_,_,_,_,_,_,dlen⟩:=g2;obtain⟨r_U8,_,_,d_Leg,_,d_I64⟩:=t
 obtain⟨a0_b,a0_i,a0_h⟩:=a0;have hnil_Leg:d_Leg []=[]:=z6 ht;have hnil_I64:d_I64 []=[]:=oC ht;unfold kB at h;try dsimp only at h
 cbv;obtain⟨x1,hx1,h⟩:=ac h;obtain⟨x1_1,⟨x1_2_b,x1_2_i,x1_2_h⟩⟩:=x1;try dsimp only at h
 refine ACallM.mk _ _ _ _ rfl rfl (hF _ _ _ (ay hg ht hx1)) rfl (nb rfl) (nb rfl) ?_;cbv;obtain⟨x2,hx2,h⟩:=ac h;obtain⟨x2_1,⟨x2_2_b,x2_2_i,x2_2_h⟩⟩:=x2;try dsimp only at h
 refine ACallM.mk _ _ _ _ rfl rfl (hF _ _ _ (ay hg ht hx2)) rfl (nb rfl) (nb rfl) ?_;cbv;obtain⟨o1,ho1,h⟩:=ac h;try dsimp only at h
 try rw[hg] at ho1
 try rw[ht] at ho1
 refine ABL.mk {p:Nat×(List Int)×Int×Int×(List Leg)×Int//cF G.real TE.real a1 p.1 p.2.1 p.2.2.1 p.2.2.2.1 p.2.2.2.2.1 p.2.2.2.2.2=some o1} (fun⟨⟨n1,v1,v2,v3,w1,v4⟩,_⟩=>({sl:=[(0,.c (.p 3 3 0 0)),(1,.c (.r (.v (.int .i64 a1)))),(4,.c (.p 0 3 0 0)),(5,.c (.p 1 3 0 0)),(6,.c (.r (.v (.int .i64 v4))))],tab:=[(0,some (.foc 3 [] [.n 6,.n 1,.r (.v (.int .i64 0))] [])),(1,some (.foc 3 [] [.f 2 6 0 (dlen (d_Leg w1)),.n 1,.r (.v (.int .i64 (wrap .i64 (mul 15 x1_1))))] [])),(2,some (.arr 6 (d_Leg w1))),(3,some (.foc 3 [] [.r (.s 1 (r_U8 v1)),.r (.v (.int .i64 v2)),.r (.v (.int .i64 v3))] []))]}:St)) 4 (fun p=>p.1.1) ⟨(1000000000,x2_2_b,x2_2_i,x2_2_h,[],(wrap .i64 (add 1 x2_1))),ho1⟩ ((List Int)×Int×Int×List Leg) (fun⟨y1_1,y1_2_1,y1_2_2_1,y1_2_2_2⟩=>({sl:=[(0,.c (.p 3 3 0 0)),(4,.c (.p 0 3 0 0)),(5,.c (.p 1 3 0 0))],tab:=[(0,some (.foc 3 [] [.n 6,.n 1,.r (.v (.int .i64 0))] [])),(1,some (.foc 3 [] [.f 2 6 0 (dlen (d_Leg y1_2_2_2)),.n 1,.r (.v (.int .i64 (wrap .i64 (mul 15 x1_1))))] [])),(2,some (.arr 6 (d_Leg y1_2_2_2))),(3,some (.foc 3 [] [.r (.s 1 (r_U8 y1_1)),.r (.v (.int .i64 y1_2_1)),.r (.v (.int .i64 y1_2_2_1))] []))]}:St)) 4 (fun y=>o1=y) ?_ ?_ ?_
 ·refine Wk.of [(0,some 4),(1,some 84),(2,none),(3,some 3)] rfl rfl ?_ ?_
  ·cbv;all_goals try rw[show dlen (d_Leg [])=0 from nn hg ht]
   all_goals try rw[hnil_Leg]
   all_goals exact⟨⟨_,rfl,rfl⟩,⟨_,rfl,rfl⟩,⟨_,rfl,rfl⟩,⟨_,rfl,rfl⟩,⟨_,rfl,rfl⟩,trivial⟩
  cbv;all_goals try rw[show dlen (d_Leg [])=0 from nn hg ht]
  all_goals try rw[hnil_Leg]
  all_goals exact⟨⟨_,rfl,_,rfl,rfl,rfl,rfl,trivial⟩,⟨_,rfl,_,rfl,⟨⟨_,rfl⟩,rfl,rfl⟩,rfl,rfl,trivial⟩,⟨_,rfl⟩,⟨_,rfl,_,rfl,rfl,rfl,rfl,trivial⟩,trivial⟩
 ·rintro⟨⟨n1,v1,v2,v3,w1,v4⟩,h_1⟩ hq1;try dsimp only at h_1
  clear hq1;rcases n1 with _|n1
  ·rw[cF] at h_1;cases h_1
  rw[cF] at h_1;try rw[←hg] at h_1
  try rw[←ht] at h_1
  try dsimp only at h_1
  cbv
  cases hb1:(lt 0 v4)
  ·rw[aa hb1] at h_1;cbv;refine⟨(v1,v2,v3,w1),Wk.of [(0,some 0),(1,some 1),(2,some 2),(3,some 3)] rfl rfl ?_ ?_,(Option.some.inj h_1).symm⟩
   ·cbv;all_goals exact⟨⟨_,rfl,rfl⟩,⟨_,rfl,rfl⟩,⟨_,rfl,rfl⟩,trivial⟩
   cbv;all_goals exact⟨⟨_,rfl,_,rfl,rfl,rfl,rfl,trivial⟩,⟨_,rfl,_,rfl,rfl,rfl,rfl,trivial⟩,⟨_,rfl,rfl⟩,⟨_,rfl,_,rfl,rfl,rfl,rfl,trivial⟩,trivial⟩
  rw[ab hb1] at h_1;cbv;obtain⟨x3,hx3,h_1⟩:=ac h_1;obtain⟨⟨x3_1_From,x3_1_To,x3_1_Start,x3_1_Takes,x3_1_Days,x3_1_Room⟩,⟨x3_2_b,x3_2_i,x3_2_h⟩⟩:=x3;try dsimp only at h_1
  refine ACallM.mk _ _ _ _ rfl rfl (hF _ _ _ (Az hg ht hx3)) rfl (nb rfl) (nb rfl) ?_;cbv;obtain⟨l1,hl1,h_1⟩:=ah h_1;try dsimp only at h_1
  refine ANew.mk (d_Leg l1) (dlen (d_Leg l1)) (by rw[←hl1];exact yp hg ht [(Leg.mk x3_1_From x3_1_To x3_1_Start x3_1_Takes x3_1_Days x3_1_Room)]) (by rw[←hl1];exact vg hg ht [(Leg.mk x3_1_From x3_1_To x3_1_Start x3_1_Takes x3_1_Days x3_1_Room)]) ?_;cbv;obtain⟨hc4,h_1⟩:=aj h_1;refine AStep.mk ⟨⟨rfl,(fo hg ht _)⟩,(qG hg ht (fo hg ht _) rfl hc4)⟩ ?_;cbv;obtain⟨l2,hl2,h_1⟩:=ah h_1;try dsimp only at h_1
  refine ANew.mk (d_Leg l2) (dlen (d_Leg l2)) (by rw[←hl2];exact xR hg ht (fo hg ht _) rfl) (by rw[←hl2];exact vd hg ht (fo hg ht _) rfl) ?_;cbv;obtain⟨x4,hx4,h_1⟩:=ac h_1;obtain⟨x4_1,⟨x4_2_b,x4_2_i,x4_2_h⟩⟩:=x4;try dsimp only at h_1
  refine ACallM.mk _ _ _ _ rfl rfl (hF _ _ _ (cd hg ht hx4)) rfl (nb rfl) (nb rfl) ?_;cbv;have hb2:x4_1=true∨x4_1=false:=by cases x4_1<;>simp
  rcases hb2 with hb2|hb2
  ·rw[ab hb2] at h_1;have hK_:=h_1;subst hb2;have h_1:=hK_;clear hK_;cbv;iterate 5 try(rw[hb2];cbv)
   cases hb3:(lt (int (dlen (d_Leg l2))) a1)
   ·rw[aa hb3] at h_1;cbv;try rw[hg] at h_1
    try rw[ht] at h_1
    refine⟨⟨(n1,x4_2_b,x4_2_i,x4_2_h,l2,(wrap .i64 (sub v4 1))),h_1⟩,Wk.of [(0,some 0),(1,some 1),(2,some 164),(3,some 3)] rfl rfl ?_ ?_,Nat.lt_succ_self _⟩
    ·cbv;all_goals exact⟨⟨_,rfl,rfl⟩,⟨_,rfl,rfl⟩,⟨_,rfl,rfl⟩,⟨_,rfl,rfl⟩,⟨_,rfl,rfl⟩,trivial⟩
    cbv;all_goals exact⟨⟨_,rfl,_,rfl,rfl,rfl,rfl,trivial⟩,⟨_,rfl,_,rfl,rfl,rfl,rfl,trivial⟩,⟨_,rfl,rfl⟩,⟨_,rfl,_,rfl,rfl,rfl,rfl,trivial⟩,trivial⟩
   rw[ab hb3] at h_1;cbv;obtain⟨hc1,h_1⟩:=aj h_1;refine AStep.mk hc1 ?_;cbv;obtain⟨x5,hx5,h_1⟩:=aP h_1;obtain⟨x5_From,x5_To,x5_Start,x5_Takes,x5_Days,x5_Room⟩:=x5;try dsimp only at h_1
   refine AGet.mk _ (sX hg ht hx5) ?_;cbv;obtain⟨hc2,h_1⟩:=aj h_1;refine AStep.mk hc2 ?_;cbv;refine AGet.mk _ (sX hg ht hx5) ?_;cbv;obtain⟨x6,hx6,h_1⟩:=ac h_1;obtain⟨x6_1,⟨x6_2_b,x6_2_i,x6_2_h⟩⟩:=x6;try dsimp only at h_1
   refine ACallM.mk _ _ _ _ rfl rfl (hF _ _ _ (ay hg ht hx6)) rfl (nb rfl) (nb rfl) ?_;cbv;refine AStep.mk (by decide) ?_;cbv;obtain⟨l3,hl3,h_1⟩:=ah h_1;try dsimp only at h_1
   refine ANew.mk (d_Leg l3) (dlen (d_Leg l3)) (by rw[←hl3];exact yp hg ht [(Leg.mk x5_To x5_From (rem (wrap .i64 (add x3_1_Start (wrap .i64 (mul 60 x6_1)))) 1440) x3_1_Takes x3_1_Days x3_1_Room)]) (by rw[←hl3];exact vg hg ht [(Leg.mk x5_To x5_From (rem (wrap .i64 (add x3_1_Start (wrap .i64 (mul 60 x6_1)))) 1440) x3_1_Takes x3_1_Days x3_1_Room)]) ?_;cbv;obtain⟨hc3,h_1⟩:=aj h_1;refine AStep.mk ⟨⟨rfl,(fo hg ht _)⟩,(qG hg ht (fo hg ht _) rfl hc3)⟩ ?_;cbv;obtain⟨l4,hl4,h_1⟩:=ah h_1;try dsimp only at h_1
   refine ANew.mk (d_Leg l4) (dlen (d_Leg l4)) (by rw[←hl4];exact xR hg ht (fo hg ht _) rfl) (by rw[←hl4];exact vd hg ht (fo hg ht _) rfl) ?_;cbv;try rw[hg] at h_1
   try rw[ht] at h_1
   refine⟨⟨(n1,x6_2_b,x6_2_i,x6_2_h,l4,(wrap .i64 (sub v4 1))),h_1⟩,Wk.of [(0,some 0),(1,some 1),(2,some 916),(3,some 3)] rfl rfl ?_ ?_,Nat.lt_succ_self _⟩
   ·cbv;all_goals exact⟨⟨_,rfl,rfl⟩,⟨_,rfl,rfl⟩,⟨_,rfl,rfl⟩,⟨_,rfl,rfl⟩,⟨_,rfl,rfl⟩,trivial⟩
   cbv;all_goals exact⟨⟨_,rfl,_,rfl,rfl,rfl,rfl,trivial⟩,⟨_,rfl,_,rfl,rfl,rfl,rfl,trivial⟩,⟨_,rfl,rfl⟩,⟨_,rfl,_,rfl,rfl,rfl,rfl,trivial⟩,trivial⟩
  rw[aa hb2] at h_1;have hK_:=h_1;subst hb2;have h_1:=hK_;clear hK_;cbv;iterate 5 try(rw[hb2];cbv)
  try rw[hg] at h_1
  try rw[ht] at h_1
  refine⟨⟨(n1,x4_2_b,x4_2_i,x4_2_h,l2,(wrap .i64 (sub v4 1))),h_1⟩,Wk.of [(0,some 0),(1,some 1),(2,some 164),(3,some 3)] rfl rfl ?_ ?_,Nat.lt_succ_self _⟩
  ·cbv;all_goals exact⟨⟨_,rfl,rfl⟩,⟨_,rfl,rfl⟩,⟨_,rfl,rfl⟩,⟨_,rfl,rfl⟩,⟨_,rfl,rfl⟩,trivial⟩
  cbv;all_goals exact⟨⟨_,rfl,_,rfl,rfl,rfl,rfl,trivial⟩,⟨_,rfl,_,rfl,rfl,rfl,rfl,trivial⟩,⟨_,rfl,rfl⟩,⟨_,rfl,_,rfl,rfl,rfl,rfl,trivial⟩,trivial⟩
 rintro⟨y1_1,y1_2_1,y1_2_2_1,y1_2_2_2⟩ hy1;replace hy1:=hy1.symm;subst hy1;try dsimp only[lr,lrL,lrp,a9] at h
 cbv;obtain⟨x7,hx7,h⟩:=ac h;obtain⟨x7_1,⟨x7_2_b,x7_2_i,x7_2_h⟩⟩:=x7;try dsimp only at h
 refine ACallM.mk _ _ _ _ rfl rfl (hF _ _ _ (cd hg ht hx7)) rfl (nb rfl) (nb rfl) ?_;cbv;have hb4:x7_1=true∨x7_1=false:=by cases x7_1<;>simp
 rcases hb4 with hb4|hb4
 ·rw[ab hb4] at h;have hK_:=h;subst hb4;have h:=hK_;clear hK_;cbv;obtain⟨x8,hx8,h⟩:=ac h;obtain⟨x8_1,⟨x8_2_b,x8_2_i,x8_2_h⟩⟩:=x8;try dsimp only at h
  refine ACallM.mk _ _ _ _ rfl rfl (hF _ _ _ (ay hg ht hx8)) rfl (nb rfl) (nb rfl) ?_;cbv;obtain⟨x9,hx9,h⟩:=ac h;obtain⟨x9_1,⟨x9_2_b,x9_2_i,x9_2_h⟩⟩:=x9;try dsimp only at h
  refine ACallM.mk _ _ _ _ rfl rfl (hF _ _ _ (ay hg ht hx9)) rfl (nb rfl) (nb rfl) ?_;cbv;obtain⟨l5,hl5,h⟩:=ah h;try dsimp only at h
  refine ANew.mk (d_I64 l5) (dlen (d_I64 l5)) (by rw[←hl5];exact dN hg ht [x8_1,(wrap .i64 (add 3 x9_1))]) (by rw[←hl5];exact df hg ht [x8_1,(wrap .i64 (add 3 x9_1))]) ?_;cbv;obtain rfl:=Option.some.inj h;exact ARetM.mk ⟨⟨rfl,(fo hg ht _)⟩,⟨rfl,(aq hg ht _)⟩⟩ hX.symm hY.symm
 rw[aa hb4] at h;have hK_:=h;subst hb4;have h:=hK_;clear hK_;cbv;obtain rfl:=Option.some.inj h;exact ARetM.mk ⟨rfl,(fo hg ht _)⟩ (by rw[hX];first|rfl|(simp only[Leg.ds,Network.ds,Trip.ds,Scan.ds,Belief.ds,Cur.ds,Spot.ds,Know.ds,hnil_I64];try rfl)) (by rw[hY];first|rfl|(simp only[Leg.ds,Network.ds,Trip.ds,Scan.ds,Belief.ds,Cur.ds,Spot.ds,Know.ds,hnil_I64];try rfl))
def ir87:J:=js [jq 1 (.box 0),jq 2 (.mv (.k (.c (.n 1))))] [1] (js [jq 7 (.bsl 1 []),jm 3 7] [1,3] (.seq (js [jm 4 (ki 0)] [1,3,4] (.bl 0 (.seq (js [jm 8 4,jf 9 0 1,jk 10 9,jq 11 (.len false 10),jb 12 .mul .i (ki 2) 11,jb 13 .lss .i 8 12] [1,3,4,13] (.cond 13 .skip (.exit 0))) (.seq (.block 1 (js [jf 16 0 1,jk 17 16,jm 18 4,jb 19 .quo .i 18 (ki 2),ja 20 6 17 19,jf 21 0 20,jk 22 21,jm 5 22] [1,3,4,5] (.seq (js [jm 23 4,jb 24 .rem .i 23 (ki 2),jb 25 .eql .i 24 (ki 1)] [1,3,4,5,25] (.cond 25 (.reg none [jf 26 0 1,jk 27 26,jm 28 4,jb 29 .quo .i 28 (ki 2),ja 30 6 27 29,jf 31 1 30,jk 32 31,jm 5 32] [1,3,4,5]) .skip)) (js [jm 6 (ki 0)] [1,3,4,5,6] (.seq (.bl 2 (.seq (js [jm 33 6,jm 34 3,jq 35 (.len false 34),jb 36 .lss .i 33 35,jm 37 36,ju 38 37 (.mv 3),ju 39 37 (.mv 6),ju 40 37 (.ia 1 38 39),ju 41 37 (.ld false 1 40),ju 42 37 (.mv 5),ju 43 37 (.bin .lss .s 41 42),jq 44 (.pick 37 43 kf)] [1,3,4,5,6,44] (.cond 44 .skip (.exit 2))) (.block 3 (.reg none [jm 45 6,jb 46 .add .i 45 (ki 1),jm 6 46] [1,3,4,5,6])))) (js [jm 47 6,jm 48 3,jq 49 (.len false 48),jb 50 .eql .i 47 49,jm 51 50,jv 52 51 (.mv 3),jv 53 51 (.mv 6),jv 54 51 (.ia 1 52 53),jv 55 51 (.ld false 1 54),jv 56 51 (.mv 5),jv 57 51 (.bin .neq .s 55 56),jq 58 (.pick 51 kt 57)] [1,3,4,5,6,58] (.cond 58 (.reg (some [[],[],[],[1,2],[0,1,2,3],[],[5],[0,1,2,3,4,5,6],[],[],[8,9],[0,1,2,3,4,5,6,7,8,9,10],[0,1,2,3,4,5,6,7,8,9,10,11]]) [jq 59 (.bsl 1 []),jm 60 3,jm 61 6,jq 62 (.sl 1 60 none (some 61)),jq 63 (.app 1 16 false 59 62),jm 64 5,jq 65 (.bsl 1 [64]),jq 66 (.app 1 16 true 63 65),jm 67 3,jm 68 6,jq 69 (.sl 1 67 (some 68) none),jq 70 (.app 1 16 false 66 69),jm 3 70] [1,3,4]) .skip))))))) (.reg none [jm 14 4,jb 15 .add .i 14 (ki 1),jm 4 15] [1,3,4]))))) (js [jm 71 3,jm 2 71] [2] .ret)))
def rv87:List RV:=[.t 2]
def cv (g:G) (t:TE) (w1:List ByteArray) (x1:Leg):Nat→Int→Option Int
 |0,v3=>
  some v3
 |n3+1,v3=>
  gt w1 (g.nat v3) fun x4=>
  br (g.slt x4 x1.From)
  (
   cv g t w1 x1 n3 (g.wrap .i64 (g.add v3 1)))
  (
   some v3)
def cB (g:G) (t:TE) (w1:List ByteArray) (x1:Leg):Nat→Int→Option Int
 |0,v2=>
  some v2
 |n2+1,v2=>
  gt w1 (g.nat v2) fun x2=>
  br (g.slt x2 x1.To)
  (
   cB g t w1 x1 n2 (g.wrap .i64 (g.add v2 1)))
  (
   some v2)
def aM (g:G) (t:TE) (a0:Network):Nat→Int→List ByteArray→Option (List ByteArray)
 |0,v1,w1=>
  some w1
 |n1+1,v1,w1=>
  gd (((0:Int)≤(g.wrap .i64 (g.quo v1 2))))<|
  gt a0.Legs (g.nat (g.wrap .i64 (g.quo v1 2))) fun x1=>
  br (g.eq (g.rem v1 2) 1)
  (
   gd (((0:Int)≤(g.wrap .i64 (g.quo v1 2))))<|
   gd (((g.int (g.dlen (t.d_S w1)))≤9223372036854775807))<|
   cl (cB g t w1 x1 (ap 0 (g.int (g.dlen (t.d_S w1)))) 0) fun y1=>
   br (g.eq y1 (g.int (g.dlen (t.d_S w1))))
   (
    lP ([]) fun(l2:List ByteArray)=>
    gd (((0:Int)≤0∧0≤y1∧y1≤(((g.dlen (t.d_S w1)):Nat):Int)))<|
    gd (((g.nat 0)+(g.nsub (g.nat y1) (g.nat 0))≤w1.length))<|
    gd (((l2.length+(List.take (g.nsub (g.nat y1) (g.nat 0)) (List.drop (g.nat 0) w1)).length)*16≤70368744177664))<|
    lP (l2++(List.take (g.nsub (g.nat y1) (g.nat 0)) (List.drop (g.nat 0) w1))) fun(l3:List ByteArray)=>
    lP ([x1.To]) fun(l4:List ByteArray)=>
    gd (((l3.length+l4.length)*16≤70368744177664))<|
    lP (l3++l4) fun(l5:List ByteArray)=>
    gd (((0:Int)≤y1∧y1≤(g.int (g.dlen (t.d_S w1)))∧(g.int (g.dlen (t.d_S w1)))≤(((g.dlen (t.d_S w1)):Nat):Int)))<|
    gd (((g.nat y1)+(g.nsub (g.nat (g.int (g.dlen (t.d_S w1)))) (g.nat y1))≤w1.length))<|
    gd (((l5.length+(List.take (g.nsub (g.nat (g.int (g.dlen (t.d_S w1)))) (g.nat y1)) (List.drop (g.nat y1) w1)).length)*16≤70368744177664))<|
    lP (l5++(List.take (g.nsub (g.nat (g.int (g.dlen (t.d_S w1)))) (g.nat y1)) (List.drop (g.nat y1) w1))) fun(l6:List ByteArray)=>
    aM g t a0 n1 (g.wrap .i64 (g.add v1 1)) l6)
   (
    gd (((0:Int)≤y1∧y1<(((g.dlen (t.d_S w1)):Nat):Int)))<|
    gt w1 (g.nat y1) fun x3=>
    br (g.seq x3 x1.To)
    (
     aM g t a0 n1 (g.wrap .i64 (g.add v1 1)) w1)
    (
     lP ([]) fun(l7:List ByteArray)=>
     gd (((0:Int)≤0∧0≤y1∧y1≤(((g.dlen (t.d_S w1)):Nat):Int)))<|
     gd (((g.nat 0)+(g.nsub (g.nat y1) (g.nat 0))≤w1.length))<|
     gd (((l7.length+(List.take (g.nsub (g.nat y1) (g.nat 0)) (List.drop (g.nat 0) w1)).length)*16≤70368744177664))<|
     lP (l7++(List.take (g.nsub (g.nat y1) (g.nat 0)) (List.drop (g.nat 0) w1))) fun(l8:List ByteArray)=>
     lP ([x1.To]) fun(l9:List ByteArray)=>
     gd (((l8.length+l9.length)*16≤70368744177664))<|
     lP (l8++l9) fun(l10:List ByteArray)=>
     gd (((0:Int)≤y1∧y1≤(g.int (g.dlen (t.d_S w1)))∧(g.int (g.dlen (t.d_S w1)))≤(((g.dlen (t.d_S w1)):Nat):Int)))<|
     gd (((g.nat y1)+(g.nsub (g.nat (g.int (g.dlen (t.d_S w1)))) (g.nat y1))≤w1.length))<|
     gd (((l10.length+(List.take (g.nsub (g.nat (g.int (g.dlen (t.d_S w1)))) (g.nat y1)) (List.drop (g.nat y1) w1)).length)*16≤70368744177664))<|
     lP (l10++(List.take (g.nsub (g.nat (g.int (g.dlen (t.d_S w1)))) (g.nat y1)) (List.drop (g.nat y1) w1))) fun(l11:List ByteArray)=>
     aM g t a0 n1 (g.wrap .i64 (g.add v1 1)) l11)))
  (
   gd (((g.int (g.dlen (t.d_S w1)))≤9223372036854775807))<|
   cl (cv g t w1 x1 (ap 0 (g.int (g.dlen (t.d_S w1)))) 0) fun y2=>
   br (g.eq y2 (g.int (g.dlen (t.d_S w1))))
   (
    lP ([]) fun(l12:List ByteArray)=>
    gd (((0:Int)≤0∧0≤y2∧y2≤(((g.dlen (t.d_S w1)):Nat):Int)))<|
    gd (((g.nat 0)+(g.nsub (g.nat y2) (g.nat 0))≤w1.length))<|
    gd (((l12.length+(List.take (g.nsub (g.nat y2) (g.nat 0)) (List.drop (g.nat 0) w1)).length)*16≤70368744177664))<|
    lP (l12++(List.take (g.nsub (g.nat y2) (g.nat 0)) (List.drop (g.nat 0) w1))) fun(l13:List ByteArray)=>
    lP ([x1.From]) fun(l14:List ByteArray)=>
    gd (((l13.length+l14.length)*16≤70368744177664))<|
    lP (l13++l14) fun(l15:List ByteArray)=>
    gd (((0:Int)≤y2∧y2≤(g.int (g.dlen (t.d_S w1)))∧(g.int (g.dlen (t.d_S w1)))≤(((g.dlen (t.d_S w1)):Nat):Int)))<|
    gd (((g.nat y2)+(g.nsub (g.nat (g.int (g.dlen (t.d_S w1)))) (g.nat y2))≤w1.length))<|
    gd (((l15.length+(List.take (g.nsub (g.nat (g.int (g.dlen (t.d_S w1)))) (g.nat y2)) (List.drop (g.nat y2) w1)).length)*16≤70368744177664))<|
    lP (l15++(List.take (g.nsub (g.nat (g.int (g.dlen (t.d_S w1)))) (g.nat y2)) (List.drop (g.nat y2) w1))) fun(l16:List ByteArray)=>
    aM g t a0 n1 (g.wrap .i64 (g.add v1 1)) l16)
   (
    gd (((0:Int)≤y2∧y2<(((g.dlen (t.d_S w1)):Nat):Int)))<|
    gt w1 (g.nat y2) fun x5=>
    br (g.seq x5 x1.From)
    (
     aM g t a0 n1 (g.wrap .i64 (g.add v1 1)) w1)
    (
     lP ([]) fun(l17:List ByteArray)=>
     gd (((0:Int)≤0∧0≤y2∧y2≤(((g.dlen (t.d_S w1)):Nat):Int)))<|
     gd (((g.nat 0)+(g.nsub (g.nat y2) (g.nat 0))≤w1.length))<|
     gd (((l17.length+(List.take (g.nsub (g.nat y2) (g.nat 0)) (List.drop (g.nat 0) w1)).length)*16≤70368744177664))<|
     lP (l17++(List.take (g.nsub (g.nat y2) (g.nat 0)) (List.drop (g.nat 0) w1))) fun(l18:List ByteArray)=>
     lP ([x1.From]) fun(l19:List ByteArray)=>
     gd (((l18.length+l19.length)*16≤70368744177664))<|
     lP (l18++l19) fun(l20:List ByteArray)=>
     gd (((0:Int)≤y2∧y2≤(g.int (g.dlen (t.d_S w1)))∧(g.int (g.dlen (t.d_S w1)))≤(((g.dlen (t.d_S w1)):Nat):Int)))<|
     gd (((g.nat y2)+(g.nsub (g.nat (g.int (g.dlen (t.d_S w1)))) (g.nat y2))≤w1.length))<|
     gd (((l20.length+(List.take (g.nsub (g.nat (g.int (g.dlen (t.d_S w1)))) (g.nat y2)) (List.drop (g.nat y2) w1)).length)*16≤70368744177664))<|
     lP (l20++(List.take (g.nsub (g.nat (g.int (g.dlen (t.d_S w1)))) (g.nat y2)) (List.drop (g.nat y2) w1))) fun(l21:List ByteArray)=>
     aM g t a0 n1 (g.wrap .i64 (g.add v1 1)) l21)))
def dG (g:G) (t:TE) (a0:Network):Option (List ByteArray):=
 lP ([]) fun(l1:List ByteArray)=>
 gd (((g.wrap .i64 (g.mul 2 (g.llen (t.r_Leg a0.Legs))))≤9223372036854775807))<|
 cl (aM g t a0 (ap 0 (g.wrap .i64 (g.mul 2 (g.llen (t.r_Leg a0.Legs))))) 0 l1) fun y3=>
 some y3
theorem eU {g:G} {t:TE} {a0:Network} {r:List ByteArray} (hg:g=G.real) (ht:t=TE.real) (h:dG g t a0=some r):Fn Tryz.prog 87 [.g (Network.rs t a0)] (.c (.o 1 (t.d_S r))):=by
 obtain⟨X,hX⟩:=aE (.c (.o 1 (t.d_S r)):X);rw[←hX];refine aB (rvs:=rv87) (j:=ir87) Tryz.func87 rfl (by kernel_rfl) (nb rfl) (by kernel_rfl) af ?_;intro g2 F hg2 hF;obtain rfl:g2=g:=hg2.unique.trans hg.symm;clear hg2;obtain⟨wrap,lt,_,eq,_,rem,_,_,_,_,_,_,int,add,_,mul,_,seq,slt,_,_,llen,_,_,dlen⟩:=g2;obtain⟨_,_,r_Leg,_,r_I64,_,_,_,_,d_S⟩:=t
 obtain⟨a0_Legs,a0_Off,a0_Change⟩:=a0;unfold dG at h;try dsimp only at h
 cbv;obtain⟨l1,hl1,h⟩:=ah h;try dsimp only at h
 refine ANew.mk (d_S l1) (dlen (d_S l1)) (by rw[←hl1];exact gl hg ht []) (by rw[←hl1];exact ez hg ht []) ?_;cbv;obtain⟨hB1,h⟩:=aj h;obtain⟨o1,ho1,h⟩:=ac h;try dsimp only at h
 try rw[hg] at ho1
 try rw[ht] at ho1
 refine ABL.mk {p:Nat×Int×List ByteArray//p.1=ap p.2.1 (wrap .i64 (mul 2 (llen (r_Leg a0_Legs))))∧0≤p.2.1∧aM G.real TE.real (Network.mk a0_Legs a0_Off a0_Change) p.1 p.2.1 p.2.2=some o1} (fun⟨⟨n1,v1,w1⟩,_⟩=>({sl:=[(1,.c (.p 0 3 0 0)),(3,.c (.f 1 1 0 (dlen (d_S w1)))),(4,.c (.r (.v (.int .i64 v1))))],tab:=[(0,some (.foc 3 [] [.r (.s 6 (r_Leg a0_Legs)),.r (.s 1 (r_I64 a0_Off)),.r (.v (.int .i64 a0_Change))] [])),(1,some (.arr 1 (d_S w1)))]}:St)) 2 (fun p=>p.1.1) ⟨(ap 0 (wrap .i64 (mul 2 (llen (r_Leg a0_Legs)))),0,l1),rfl,Int.le_refl _,ho1⟩ (List ByteArray) (fun y3=>({sl:=[(3,.c (.f 0 1 0 (dlen (d_S y3))))],tab:=[(0,some (.arr 1 (d_S y3)))]}:St)) 1 (fun y=>o1=y) ?_ ?_ ?_
 ·refine Wk.of [(0,some 0),(1,some 32)] rfl rfl ?_ ?_
  ·cbv;all_goals exact⟨⟨_,rfl,rfl⟩,⟨_,rfl,rfl⟩,⟨_,rfl,rfl⟩,trivial⟩
  cbv;all_goals exact⟨⟨_,rfl,_,rfl,rfl,rfl,rfl,trivial⟩,⟨_,rfl,rfl⟩,trivial⟩
 ·rintro⟨⟨n1,v1,w1⟩,hn1,hi1,h_1⟩ hq1;try dsimp only at hn1 hi1 h_1
  clear hq1;cbv;rcases n1 with _|n1
  ·have hb1:lt v1 (wrap .i64 (mul 2 (llen (r_Leg a0_Legs))))=false:=bc hg hn1;rw[aM] at h_1;try rw[←hg] at h_1
   try rw[←ht] at h_1
   try dsimp only at h_1
   rw[hb1];cbv;refine⟨w1,Wk.of [(0,some 1)] rfl rfl ?_ ?_,(Option.some.inj h_1).symm⟩
   ·cbv;all_goals exact⟨⟨_,rfl,rfl⟩,trivial⟩
   cbv;all_goals exact⟨⟨_,rfl,rfl⟩,trivial⟩
  have hb1:lt v1 (wrap .i64 (mul 2 (llen (r_Leg a0_Legs))))=true:=bz hg hn1;have hl1:=dj hn1;have hs1:=cr hg hn1 hi1 hB1 (by decide);rw[aM] at h_1;try rw[←hg] at h_1
  try rw[←ht] at h_1
  try dsimp only at h_1
  rw[hb1];cbv;refine AStep.mk (by decide) ?_;cbv;obtain⟨hc1,h_1⟩:=aj h_1;refine AStep.mk hc1 ?_;cbv;obtain⟨x1,hx1,h_1⟩:=aP h_1;obtain⟨x1_From,x1_To,x1_Start,x1_Takes,x1_Days,x1_Room⟩:=x1;try dsimp only at h_1
  refine AGet.mk _ (bm hg ht hx1) ?_;cbv;refine AStep.mk (by decide) ?_;cbv
  cases hb2:(eq (rem v1 2) 1)
  ·rw[aa hb2] at h_1;cbv;obtain⟨hB3,h_1⟩:=aj h_1;obtain⟨o3,ho3,h_1⟩:=ac h_1;try dsimp only at h_1
   try rw[hg] at ho3
   try rw[ht] at ho3
   refine ABL.mk {p:Nat×Int//p.1=ap p.2 (int (dlen (d_S w1)))∧0≤p.2∧cv G.real TE.real w1 (Leg.mk x1_From x1_To x1_Start x1_Takes x1_Days x1_Room) p.1 p.2=some o3} (fun⟨⟨n3,v3⟩,_⟩=>({sl:=[(1,.c (.p 0 3 0 0)),(3,.c (.f 1 1 0 (dlen (d_S w1)))),(4,.c (.r (.v (.int .i64 v1)))),(5,.c (.r (.v (.string x1_From)))),(6,.c (.r (.v (.int .i64 v3))))],tab:=[(0,some (.foc 3 [] [.r (.s 6 (r_Leg a0_Legs)),.r (.s 1 (r_I64 a0_Off)),.r (.v (.int .i64 a0_Change))] [])),(1,some (.arr 1 (d_S w1)))]}:St)) 2 (fun p=>p.1.1) ⟨(ap 0 (int (dlen (d_S w1))),0),rfl,Int.le_refl _,ho3⟩ (Int) (fun y2=>({sl:=[(1,.c (.p 0 3 0 0)),(3,.c (.f 1 1 0 (dlen (d_S w1)))),(4,.c (.r (.v (.int .i64 v1)))),(5,.c (.r (.v (.string x1_From)))),(6,.c (.r (.v (.int .i64 y2))))],tab:=[(0,some (.foc 3 [] [.r (.s 6 (r_Leg a0_Legs)),.r (.s 1 (r_I64 a0_Off)),.r (.v (.int .i64 a0_Change))] [])),(1,some (.arr 1 (d_S w1)))]}:St)) 2 (fun y=>o3=y) ?_ ?_ ?_
   ·refine Wk.of [(0,some 0),(1,some 1)] rfl rfl ?_ ?_
    ·cbv;all_goals exact⟨⟨_,rfl,rfl⟩,⟨_,rfl,rfl⟩,⟨_,rfl,rfl⟩,⟨_,rfl,rfl⟩,⟨_,rfl,rfl⟩,trivial⟩
    cbv;all_goals exact⟨⟨_,rfl,_,rfl,rfl,rfl,rfl,trivial⟩,⟨_,rfl,rfl⟩,trivial⟩
   ·rintro⟨⟨n3,v3⟩,hn3,hi3,h_3⟩ hq3;try dsimp only at hn3 hi3 h_3
    clear hq3;cbv;rcases n3 with _|n3
    ·have hb7:lt v3 (int (dlen (d_S w1)))=false:=bc hg hn3;rw[cv] at h_3;try rw[←hg] at h_3
     try rw[←ht] at h_3
     try dsimp only at h_3
     rw[hb7];cbv;iterate 6 try(rw[hb7];cbv)
     refine⟨v3,Wk.of [(0,some 0),(1,some 1)] rfl rfl ?_ ?_,(Option.some.inj h_3).symm⟩
     ·cbv;all_goals exact⟨⟨_,rfl,rfl⟩,⟨_,rfl,rfl⟩,⟨_,rfl,rfl⟩,⟨_,rfl,rfl⟩,⟨_,rfl,rfl⟩,trivial⟩
     cbv;all_goals exact⟨⟨_,rfl,_,rfl,rfl,rfl,rfl,trivial⟩,⟨_,rfl,rfl⟩,trivial⟩
    have hb7:lt v3 (int (dlen (d_S w1)))=true:=bz hg hn3;have hl3:=dj hn3;have hs3:=cr hg hn3 hi3 hB3 (by decide);rw[cv] at h_3;try rw[←hg] at h_3
    try rw[←ht] at h_3
    try dsimp only at h_3
    rw[hb7];cbv;iterate 2 try(rw[hb7];cbv)
    refine AStep.mk (dV hg hi3 hl3) ?_;cbv;try(rw[hb7];cbv)
    obtain⟨x4,hx4,h_3⟩:=aP h_3;try dsimp only at h_3
    refine AGet.mk _ (iY hg ht hx4) ?_;cbv;iterate 3 try(rw[hb7];cbv)
    cases hb8:(slt x4 x1_From)
    ·rw[aa hb8] at h_3;cbv;refine⟨v3,Wk.of [(0,some 0),(1,some 1)] rfl rfl ?_ ?_,(Option.some.inj h_3).symm⟩
     ·cbv;all_goals exact⟨⟨_,rfl,rfl⟩,⟨_,rfl,rfl⟩,⟨_,rfl,rfl⟩,⟨_,rfl,rfl⟩,⟨_,rfl,rfl⟩,trivial⟩
     cbv;all_goals exact⟨⟨_,rfl,_,rfl,rfl,rfl,rfl,trivial⟩,⟨_,rfl,rfl⟩,trivial⟩
    rw[ab hb8] at h_3;cbv;try rw[hg] at h_3
    try rw[ht] at h_3
    refine⟨⟨(n3,(wrap .i64 (add v3 1))),hs3.1,hs3.2,h_3⟩,Wk.of [(0,some 0),(1,some 1)] rfl rfl ?_ ?_,Nat.lt_succ_self _⟩
    ·cbv;all_goals exact⟨⟨_,rfl,rfl⟩,⟨_,rfl,rfl⟩,⟨_,rfl,rfl⟩,⟨_,rfl,rfl⟩,⟨_,rfl,rfl⟩,trivial⟩
    cbv;all_goals exact⟨⟨_,rfl,_,rfl,rfl,rfl,rfl,trivial⟩,⟨_,rfl,rfl⟩,trivial⟩
   rintro y2 hy3;replace hy3:=hy3.symm;subst hy3;try dsimp only[lr,lrL,lrp,a9] at h_1
   cbv
   cases hb9:(eq y2 (int (dlen (d_S w1))))
   rotate_left
   ·rw[ab hb9] at h_1;cbv;iterate 6 try(rw[hb9];cbv)
    obtain⟨l12,hl12,h_1⟩:=ah h_1;try dsimp only at h_1
    refine ANew.mk (d_S l12) (dlen (d_S l12)) (by rw[←hl12];exact gl hg ht []) (by rw[←hl12];exact ez hg ht []) ?_;cbv;obtain⟨hc18,h_1⟩:=aj h_1;refine AStep.mk hc18 ?_;cbv;obtain⟨hc23,h_1⟩:=aj h_1;obtain⟨hc24,h_1⟩:=aj h_1;refine AStep.mk ⟨(fI hg ht hc23),(cE hg ht (al hg ht _) (cS hg ht _ _ _) hc24)⟩ ?_;cbv;obtain⟨l13,hl13,h_1⟩:=ah h_1;try dsimp only at h_1
    refine ANew.mk (d_S l13) (dlen (d_S l13)) (by rw[←hl13];exact gK hg ht (al hg ht _) (cS hg ht _ _ _)) (by rw[←hl13];exact eF hg ht (al hg ht _) (cS hg ht _ _ _)) ?_;cbv;obtain⟨l14,hl14,h_1⟩:=ah h_1;try dsimp only at h_1
    refine ANew.mk (d_S l14) (dlen (d_S l14)) (by rw[←hl14];exact gl hg ht [x1_From]) (by rw[←hl14];exact ez hg ht [x1_From]) ?_;cbv;obtain⟨hc22,h_1⟩:=aj h_1;refine AStep.mk ⟨⟨rfl,(al hg ht _)⟩,(cE hg ht (al hg ht _) rfl hc22)⟩ ?_;cbv;obtain⟨l15,hl15,h_1⟩:=ah h_1;try dsimp only at h_1
    refine ANew.mk (d_S l15) (dlen (d_S l15)) (by rw[←hl15];exact gK hg ht (al hg ht _) rfl) (by rw[←hl15];exact eF hg ht (al hg ht _) rfl) ?_;cbv;obtain⟨hc19,h_1⟩:=aj h_1;refine AStep.mk hc19 ?_;cbv;obtain⟨hc20,h_1⟩:=aj h_1;obtain⟨hc21,h_1⟩:=aj h_1;refine AStep.mk ⟨(fI hg ht hc20),(cE hg ht (al hg ht _) (cS hg ht _ _ _) hc21)⟩ ?_;cbv;obtain⟨l16,hl16,h_1⟩:=ah h_1;try dsimp only at h_1
    refine ANew.mk (d_S l16) (dlen (d_S l16)) (by rw[←hl16];exact gK hg ht (al hg ht _) (cS hg ht _ _ _)) (by rw[←hl16];exact eF hg ht (al hg ht _) (cS hg ht _ _ _)) ?_;cbv;try rw[hg] at h_1
    try rw[ht] at h_1
    refine⟨⟨(n1,(wrap .i64 (add v1 1)),l16),hs1.1,hs1.2,h_1⟩,Wk.of [(0,some 0),(1,some 370)] rfl rfl ?_ ?_,Nat.lt_succ_self _⟩
    ·cbv;all_goals exact⟨⟨_,rfl,rfl⟩,⟨_,rfl,rfl⟩,⟨_,rfl,rfl⟩,trivial⟩
    cbv;all_goals exact⟨⟨_,rfl,_,rfl,rfl,rfl,rfl,trivial⟩,⟨_,rfl,rfl⟩,trivial⟩
   rw[aa hb9] at h_1;cbv;iterate 2 try(rw[hb9];cbv)
   obtain⟨hc25,h_1⟩:=aj h_1;refine AStep.mk hc25 ?_;cbv;try(rw[hb9];cbv)
   obtain⟨x5,hx5,h_1⟩:=aP h_1;try dsimp only at h_1
   refine AGet.mk _ (iY hg ht hx5) ?_;cbv;iterate 3 try(rw[hb9];cbv)
   cases hb10:(seq x5 x1_From)
   rotate_left
   ·rw[ab hb10] at h_1;cbv;try rw[hg] at h_1
    try rw[ht] at h_1
    refine⟨⟨(n1,(wrap .i64 (add v1 1)),w1),hs1.1,hs1.2,h_1⟩,Wk.of [(0,some 0),(1,some 1)] rfl rfl ?_ ?_,Nat.lt_succ_self _⟩
    ·cbv;all_goals exact⟨⟨_,rfl,rfl⟩,⟨_,rfl,rfl⟩,⟨_,rfl,rfl⟩,trivial⟩
    cbv;all_goals exact⟨⟨_,rfl,_,rfl,rfl,rfl,rfl,trivial⟩,⟨_,rfl,rfl⟩,trivial⟩
   rw[aa hb10] at h_1;cbv;obtain⟨l17,hl17,h_1⟩:=ah h_1;try dsimp only at h_1
   refine ANew.mk (d_S l17) (dlen (d_S l17)) (by rw[←hl17];exact gl hg ht []) (by rw[←hl17];exact ez hg ht []) ?_;cbv;obtain⟨hc26,h_1⟩:=aj h_1;refine AStep.mk hc26 ?_;cbv;obtain⟨hc31,h_1⟩:=aj h_1;obtain⟨hc32,h_1⟩:=aj h_1;refine AStep.mk ⟨(fI hg ht hc31),(cE hg ht (al hg ht _) (cS hg ht _ _ _) hc32)⟩ ?_;cbv;obtain⟨l18,hl18,h_1⟩:=ah h_1;try dsimp only at h_1
   refine ANew.mk (d_S l18) (dlen (d_S l18)) (by rw[←hl18];exact gK hg ht (al hg ht _) (cS hg ht _ _ _)) (by rw[←hl18];exact eF hg ht (al hg ht _) (cS hg ht _ _ _)) ?_;cbv;obtain⟨l19,hl19,h_1⟩:=ah h_1;try dsimp only at h_1
   refine ANew.mk (d_S l19) (dlen (d_S l19)) (by rw[←hl19];exact gl hg ht [x1_From]) (by rw[←hl19];exact ez hg ht [x1_From]) ?_;cbv;obtain⟨hc30,h_1⟩:=aj h_1;refine AStep.mk ⟨⟨rfl,(al hg ht _)⟩,(cE hg ht (al hg ht _) rfl hc30)⟩ ?_;cbv;obtain⟨l20,hl20,h_1⟩:=ah h_1;try dsimp only at h_1
   refine ANew.mk (d_S l20) (dlen (d_S l20)) (by rw[←hl20];exact gK hg ht (al hg ht _) rfl) (by rw[←hl20];exact eF hg ht (al hg ht _) rfl) ?_;cbv;obtain⟨hc27,h_1⟩:=aj h_1;refine AStep.mk hc27 ?_;cbv;obtain⟨hc28,h_1⟩:=aj h_1;obtain⟨hc29,h_1⟩:=aj h_1;refine AStep.mk ⟨(fI hg ht hc28),(cE hg ht (al hg ht _) (cS hg ht _ _ _) hc29)⟩ ?_;cbv;obtain⟨l21,hl21,h_1⟩:=ah h_1;try dsimp only at h_1
   refine ANew.mk (d_S l21) (dlen (d_S l21)) (by rw[←hl21];exact gK hg ht (al hg ht _) (cS hg ht _ _ _)) (by rw[←hl21];exact eF hg ht (al hg ht _) (cS hg ht _ _ _)) ?_;cbv;try rw[hg] at h_1
   try rw[ht] at h_1
   refine⟨⟨(n1,(wrap .i64 (add v1 1)),l21),hs1.1,hs1.2,h_1⟩,Wk.of [(0,some 0),(1,some 370)] rfl rfl ?_ ?_,Nat.lt_succ_self _⟩
   ·cbv;all_goals exact⟨⟨_,rfl,rfl⟩,⟨_,rfl,rfl⟩,⟨_,rfl,rfl⟩,trivial⟩
   cbv;all_goals exact⟨⟨_,rfl,_,rfl,rfl,rfl,rfl,trivial⟩,⟨_,rfl,rfl⟩,trivial⟩
  rw[ab hb2] at h_1;cbv;refine AStep.mk (by decide) ?_;cbv;obtain⟨hc2,h_1⟩:=aj h_1;refine AStep.mk hc2 ?_;cbv;refine AGet.mk _ (bm hg ht hx1) ?_;cbv;obtain⟨hB2,h_1⟩:=aj h_1;obtain⟨o2,ho2,h_1⟩:=ac h_1;try dsimp only at h_1
  try rw[hg] at ho2
  try rw[ht] at ho2
  refine ABL.mk {p:Nat×Int//p.1=ap p.2 (int (dlen (d_S w1)))∧0≤p.2∧cB G.real TE.real w1 (Leg.mk x1_From x1_To x1_Start x1_Takes x1_Days x1_Room) p.1 p.2=some o2} (fun⟨⟨n2,v2⟩,_⟩=>({sl:=[(1,.c (.p 0 3 0 0)),(3,.c (.f 1 1 0 (dlen (d_S w1)))),(4,.c (.r (.v (.int .i64 v1)))),(5,.c (.r (.v (.string x1_To)))),(6,.c (.r (.v (.int .i64 v2))))],tab:=[(0,some (.foc 3 [] [.r (.s 6 (r_Leg a0_Legs)),.r (.s 1 (r_I64 a0_Off)),.r (.v (.int .i64 a0_Change))] [])),(1,some (.arr 1 (d_S w1)))]}:St)) 2 (fun p=>p.1.1) ⟨(ap 0 (int (dlen (d_S w1))),0),rfl,Int.le_refl _,ho2⟩ (Int) (fun y1=>({sl:=[(1,.c (.p 0 3 0 0)),(3,.c (.f 1 1 0 (dlen (d_S w1)))),(4,.c (.r (.v (.int .i64 v1)))),(5,.c (.r (.v (.string x1_To)))),(6,.c (.r (.v (.int .i64 y1))))],tab:=[(0,some (.foc 3 [] [.r (.s 6 (r_Leg a0_Legs)),.r (.s 1 (r_I64 a0_Off)),.r (.v (.int .i64 a0_Change))] [])),(1,some (.arr 1 (d_S w1)))]}:St)) 2 (fun y=>o2=y) ?_ ?_ ?_
  ·refine Wk.of [(0,some 0),(1,some 1)] rfl rfl ?_ ?_
   ·cbv;all_goals exact⟨⟨_,rfl,rfl⟩,⟨_,rfl,rfl⟩,⟨_,rfl,rfl⟩,⟨_,rfl,rfl⟩,⟨_,rfl,rfl⟩,trivial⟩
   cbv;all_goals exact⟨⟨_,rfl,_,rfl,rfl,rfl,rfl,trivial⟩,⟨_,rfl,rfl⟩,trivial⟩
  ·rintro⟨⟨n2,v2⟩,hn2,hi2,h_2⟩ hq2;try dsimp only at hn2 hi2 h_2
   clear hq2;cbv;rcases n2 with _|n2
   ·have hb3:lt v2 (int (dlen (d_S w1)))=false:=bc hg hn2;rw[cB] at h_2;try rw[←hg] at h_2
    try rw[←ht] at h_2
    try dsimp only at h_2
    rw[hb3];cbv;iterate 6 try(rw[hb3];cbv)
    refine⟨v2,Wk.of [(0,some 0),(1,some 1)] rfl rfl ?_ ?_,(Option.some.inj h_2).symm⟩
    ·cbv;all_goals exact⟨⟨_,rfl,rfl⟩,⟨_,rfl,rfl⟩,⟨_,rfl,rfl⟩,⟨_,rfl,rfl⟩,⟨_,rfl,rfl⟩,trivial⟩
    cbv;all_goals exact⟨⟨_,rfl,_,rfl,rfl,rfl,rfl,trivial⟩,⟨_,rfl,rfl⟩,trivial⟩
   have hb3:lt v2 (int (dlen (d_S w1)))=true:=bz hg hn2;have hl2:=dj hn2;have hs2:=cr hg hn2 hi2 hB2 (by decide);rw[cB] at h_2;try rw[←hg] at h_2
   try rw[←ht] at h_2
   try dsimp only at h_2
   rw[hb3];cbv;iterate 2 try(rw[hb3];cbv)
   refine AStep.mk (dV hg hi2 hl2) ?_;cbv;try(rw[hb3];cbv)
   obtain⟨x2,hx2,h_2⟩:=aP h_2;try dsimp only at h_2
   refine AGet.mk _ (iY hg ht hx2) ?_;cbv;iterate 3 try(rw[hb3];cbv)
   cases hb4:(slt x2 x1_To)
   ·rw[aa hb4] at h_2;cbv;refine⟨v2,Wk.of [(0,some 0),(1,some 1)] rfl rfl ?_ ?_,(Option.some.inj h_2).symm⟩
    ·cbv;all_goals exact⟨⟨_,rfl,rfl⟩,⟨_,rfl,rfl⟩,⟨_,rfl,rfl⟩,⟨_,rfl,rfl⟩,⟨_,rfl,rfl⟩,trivial⟩
    cbv;all_goals exact⟨⟨_,rfl,_,rfl,rfl,rfl,rfl,trivial⟩,⟨_,rfl,rfl⟩,trivial⟩
   rw[ab hb4] at h_2;cbv;try rw[hg] at h_2
   try rw[ht] at h_2
   refine⟨⟨(n2,(wrap .i64 (add v2 1))),hs2.1,hs2.2,h_2⟩,Wk.of [(0,some 0),(1,some 1)] rfl rfl ?_ ?_,Nat.lt_succ_self _⟩
   ·cbv;all_goals exact⟨⟨_,rfl,rfl⟩,⟨_,rfl,rfl⟩,⟨_,rfl,rfl⟩,⟨_,rfl,rfl⟩,⟨_,rfl,rfl⟩,trivial⟩
   cbv;all_goals exact⟨⟨_,rfl,_,rfl,rfl,rfl,rfl,trivial⟩,⟨_,rfl,rfl⟩,trivial⟩
  rintro y1 hy2;replace hy2:=hy2.symm;subst hy2;try dsimp only[lr,lrL,lrp,a9] at h_1
  cbv
  cases hb5:(eq y1 (int (dlen (d_S w1))))
  rotate_left
  ·rw[ab hb5] at h_1;cbv;iterate 6 try(rw[hb5];cbv)
   obtain⟨l2,hl2,h_1⟩:=ah h_1;try dsimp only at h_1
   refine ANew.mk (d_S l2) (dlen (d_S l2)) (by rw[←hl2];exact gl hg ht []) (by rw[←hl2];exact ez hg ht []) ?_;cbv;obtain⟨hc3,h_1⟩:=aj h_1;refine AStep.mk hc3 ?_;cbv;obtain⟨hc8,h_1⟩:=aj h_1;obtain⟨hc9,h_1⟩:=aj h_1;refine AStep.mk ⟨(fI hg ht hc8),(cE hg ht (al hg ht _) (cS hg ht _ _ _) hc9)⟩ ?_;cbv;obtain⟨l3,hl3,h_1⟩:=ah h_1;try dsimp only at h_1
   refine ANew.mk (d_S l3) (dlen (d_S l3)) (by rw[←hl3];exact gK hg ht (al hg ht _) (cS hg ht _ _ _)) (by rw[←hl3];exact eF hg ht (al hg ht _) (cS hg ht _ _ _)) ?_;cbv;obtain⟨l4,hl4,h_1⟩:=ah h_1;try dsimp only at h_1
   refine ANew.mk (d_S l4) (dlen (d_S l4)) (by rw[←hl4];exact gl hg ht [x1_To]) (by rw[←hl4];exact ez hg ht [x1_To]) ?_;cbv;obtain⟨hc7,h_1⟩:=aj h_1;refine AStep.mk ⟨⟨rfl,(al hg ht _)⟩,(cE hg ht (al hg ht _) rfl hc7)⟩ ?_;cbv;obtain⟨l5,hl5,h_1⟩:=ah h_1;try dsimp only at h_1
   refine ANew.mk (d_S l5) (dlen (d_S l5)) (by rw[←hl5];exact gK hg ht (al hg ht _) rfl) (by rw[←hl5];exact eF hg ht (al hg ht _) rfl) ?_;cbv;obtain⟨hc4,h_1⟩:=aj h_1;refine AStep.mk hc4 ?_;cbv;obtain⟨hc5,h_1⟩:=aj h_1;obtain⟨hc6,h_1⟩:=aj h_1;refine AStep.mk ⟨(fI hg ht hc5),(cE hg ht (al hg ht _) (cS hg ht _ _ _) hc6)⟩ ?_;cbv;obtain⟨l6,hl6,h_1⟩:=ah h_1;try dsimp only at h_1
   refine ANew.mk (d_S l6) (dlen (d_S l6)) (by rw[←hl6];exact gK hg ht (al hg ht _) (cS hg ht _ _ _)) (by rw[←hl6];exact eF hg ht (al hg ht _) (cS hg ht _ _ _)) ?_;cbv;try rw[hg] at h_1
   try rw[ht] at h_1
   refine⟨⟨(n1,(wrap .i64 (add v1 1)),l6),hs1.1,hs1.2,h_1⟩,Wk.of [(0,some 0),(1,some 370)] rfl rfl ?_ ?_,Nat.lt_succ_self _⟩
   ·cbv;all_goals exact⟨⟨_,rfl,rfl⟩,⟨_,rfl,rfl⟩,⟨_,rfl,rfl⟩,trivial⟩
   cbv;all_goals exact⟨⟨_,rfl,_,rfl,rfl,rfl,rfl,trivial⟩,⟨_,rfl,rfl⟩,trivial⟩
  rw[aa hb5] at h_1;cbv;iterate 2 try(rw[hb5];cbv)
  obtain⟨hc10,h_1⟩:=aj h_1;refine AStep.mk hc10 ?_;cbv;try(rw[hb5];cbv)
  obtain⟨x3,hx3,h_1⟩:=aP h_1;try dsimp only at h_1
  refine AGet.mk _ (iY hg ht hx3) ?_;cbv;iterate 3 try(rw[hb5];cbv)
  cases hb6:(seq x3 x1_To)
  rotate_left
  ·rw[ab hb6] at h_1;cbv;try rw[hg] at h_1
   try rw[ht] at h_1
   refine⟨⟨(n1,(wrap .i64 (add v1 1)),w1),hs1.1,hs1.2,h_1⟩,Wk.of [(0,some 0),(1,some 1)] rfl rfl ?_ ?_,Nat.lt_succ_self _⟩
   ·cbv;all_goals exact⟨⟨_,rfl,rfl⟩,⟨_,rfl,rfl⟩,⟨_,rfl,rfl⟩,trivial⟩
   cbv;all_goals exact⟨⟨_,rfl,_,rfl,rfl,rfl,rfl,trivial⟩,⟨_,rfl,rfl⟩,trivial⟩
  rw[aa hb6] at h_1;cbv;obtain⟨l7,hl7,h_1⟩:=ah h_1;try dsimp only at h_1
  refine ANew.mk (d_S l7) (dlen (d_S l7)) (by rw[←hl7];exact gl hg ht []) (by rw[←hl7];exact ez hg ht []) ?_;cbv;obtain⟨hc11,h_1⟩:=aj h_1;refine AStep.mk hc11 ?_;cbv;obtain⟨hc16,h_1⟩:=aj h_1;obtain⟨hc17,h_1⟩:=aj h_1;refine AStep.mk ⟨(fI hg ht hc16),(cE hg ht (al hg ht _) (cS hg ht _ _ _) hc17)⟩ ?_;cbv;obtain⟨l8,hl8,h_1⟩:=ah h_1;try dsimp only at h_1
  refine ANew.mk (d_S l8) (dlen (d_S l8)) (by rw[←hl8];exact gK hg ht (al hg ht _) (cS hg ht _ _ _)) (by rw[←hl8];exact eF hg ht (al hg ht _) (cS hg ht _ _ _)) ?_;cbv;obtain⟨l9,hl9,h_1⟩:=ah h_1;try dsimp only at h_1
  refine ANew.mk (d_S l9) (dlen (d_S l9)) (by rw[←hl9];exact gl hg ht [x1_To]) (by rw[←hl9];exact ez hg ht [x1_To]) ?_;cbv;obtain⟨hc15,h_1⟩:=aj h_1;refine AStep.mk ⟨⟨rfl,(al hg ht _)⟩,(cE hg ht (al hg ht _) rfl hc15)⟩ ?_;cbv;obtain⟨l10,hl10,h_1⟩:=ah h_1;try dsimp only at h_1
  refine ANew.mk (d_S l10) (dlen (d_S l10)) (by rw[←hl10];exact gK hg ht (al hg ht _) rfl) (by rw[←hl10];exact eF hg ht (al hg ht _) rfl) ?_;cbv;obtain⟨hc12,h_1⟩:=aj h_1;refine AStep.mk hc12 ?_;cbv;obtain⟨hc13,h_1⟩:=aj h_1;obtain⟨hc14,h_1⟩:=aj h_1;refine AStep.mk ⟨(fI hg ht hc13),(cE hg ht (al hg ht _) (cS hg ht _ _ _) hc14)⟩ ?_;cbv;obtain⟨l11,hl11,h_1⟩:=ah h_1;try dsimp only at h_1
  refine ANew.mk (d_S l11) (dlen (d_S l11)) (by rw[←hl11];exact gK hg ht (al hg ht _) (cS hg ht _ _ _)) (by rw[←hl11];exact eF hg ht (al hg ht _) (cS hg ht _ _ _)) ?_;cbv;try rw[hg] at h_1
  try rw[ht] at h_1
  refine⟨⟨(n1,(wrap .i64 (add v1 1)),l11),hs1.1,hs1.2,h_1⟩,Wk.of [(0,some 0),(1,some 370)] rfl rfl ?_ ?_,Nat.lt_succ_self _⟩
  ·cbv;all_goals exact⟨⟨_,rfl,rfl⟩,⟨_,rfl,rfl⟩,⟨_,rfl,rfl⟩,trivial⟩
  cbv;all_goals exact⟨⟨_,rfl,_,rfl,rfl,rfl,rfl,trivial⟩,⟨_,rfl,rfl⟩,trivial⟩
 rintro y3 hy1;replace hy1:=hy1.symm;subst hy1;try dsimp only[lr,lrL,lrp,a9] at h
 cbv;obtain rfl:=Option.some.inj h;exact ARet.mk ⟨rfl,(al hg ht _)⟩ hX.symm
def ir67 (s_k0:ByteArray):J:=js [jq 3 (.box 1),jq 4 (.mv (.k (.c (.r (.v (.string s_k0))))))] [0,3] (js [jl 6 3 3,jc 7 87 [6],jm 5 7] [0,5] (.seq (js [jm 8 0,jq 9 (.callm 29 true 8 [(ki 9)])] [0,5,9] (.cond 9 (js [jm 10 0,jq 11 (.callm 65 true 10 []),jm 4 11] [4] .ret) .skip)) (js [jm 12 5,jm 13 0,jm 14 5,jq 15 (.len false 14),jq 16 (.callm 15 true 13 [15]),ja 17 1 12 16,jk 18 17,jm 4 18] [4] .ret)))
def rv67:List RV:=[.t 4]
def kR (g:G) (t:TE) (a0:Cur) (a1:Network):Option (ByteArray×Cur):=
 cl (dG g t a1) fun x1=>
 cl (ct g t a0 9) fun x2=>
 br x2.1
 (
  cl (gz g t (Cur.mk x2.2.b x2.2.i x2.2.h)) fun x3=>
  some ((x3.1,(Cur.mk x3.2.b x3.2.i x3.2.h))))
 (
  cl (aG g t (Cur.mk x2.2.b x2.2.i x2.2.h) (g.int (g.dlen (t.d_S x1)))) fun x4=>
  gd (((0:Int)≤x4.1∧x4.1<(((g.dlen (t.d_S x1)):Nat):Int)))<|
  gt x1 (g.nat x4.1) fun x5=>
  some ((x5,(Cur.mk x4.2.b x4.2.i x4.2.h))))
theorem ni {g:G} {t:TE} {a0:Cur} {a1:Network} {r:ByteArray×Cur} (hg:g=G.real) (ht:t=TE.real) (h:kR g t a0 a1=some r):FnM Tryz.prog 67 (.p (Cur.ds t a0)) [.g (Network.rs t a1)] (.c (.r (.v (.string r.1)))) (.p (Cur.ds t r.2)):=by
 obtain⟨X,hX⟩:=aE (.c (.r (.v (.string r.1))):X);obtain⟨Y,hY⟩:=aE (.p (Cur.ds t r.2):AM);rw[←hX,←hY];refine eM (rvs:=rv67) (j:=(ir67 str_k0)) Tryz.func67 rfl (by kernel_rfl) (nb rfl) (by kernel_rfl) af ?_;intro g2 F hg2 hF;obtain rfl:g2=g:=hg2.unique.trans hg.symm;clear hg2;obtain⟨_⟩:=g2;obtain⟨_⟩:=t
 obtain⟨a0_b,a0_i,a0_h⟩:=a0;obtain⟨a1_Legs,a1_Off,a1_Change⟩:=a1;unfold kR at h;try dsimp only at h
 obtain⟨s_k0,hs_k0⟩:∃s,str_k0=s:=⟨_,rfl⟩;try rw[hs_k0] at h
 rw[hs_k0];cbv;obtain⟨x1,hx1,h⟩:=ac h;try dsimp only at h
 refine ACall.mk _ _ rfl (hF _ _ _ (eU hg ht hx1)) (.inl rfl) (nb rfl) ?_;cbv;obtain⟨x2,hx2,h⟩:=ac h;obtain⟨x2_1,⟨x2_2_b,x2_2_i,x2_2_h⟩⟩:=x2;try dsimp only at h
 refine ACallM.mk _ _ _ _ rfl rfl (hF _ _ _ (cd hg ht hx2)) rfl (nb rfl) (nb rfl) ?_;cbv;have hb1:x2_1=true∨x2_1=false:=by cases x2_1<;>simp
 rcases hb1 with hb1|hb1
 ·rw[ab hb1] at h;have hK_:=h;subst hb1;have h:=hK_;clear hK_;cbv;obtain⟨x3,hx3,h⟩:=ac h;obtain⟨x3_1,⟨x3_2_b,x3_2_i,x3_2_h⟩⟩:=x3;try dsimp only at h
  refine ACallM.mk _ _ _ _ rfl rfl (hF _ _ _ (kG hg ht hx3)) rfl (nb rfl) (nb rfl) ?_;cbv;obtain rfl:=Option.some.inj h;exact ARetM.mk trivial hX.symm hY.symm
 rw[aa hb1] at h;have hK_:=h;subst hb1;have h:=hK_;clear hK_;cbv;obtain⟨x4,hx4,h⟩:=ac h;obtain⟨x4_1,⟨x4_2_b,x4_2_i,x4_2_h⟩⟩:=x4;try dsimp only at h
 refine ACallM.mk _ _ _ _ rfl rfl (hF _ _ _ (ay hg ht hx4)) rfl (nb rfl) (nb rfl) ?_;cbv;obtain⟨hc1,h⟩:=aj h;refine AStep.mk hc1 ?_;cbv;obtain⟨x5,hx5,h⟩:=aP h;try dsimp only at h
 refine AGet.mk _ (iY hg ht hx5) ?_;cbv;obtain rfl:=Option.some.inj h;exact ARetM.mk trivial hX.symm hY.symm
def ir89:J:=js [jm 4 (ki 0)] [0,1] (.seq (js [jm 5 (ki 0)] [0,1,5] (.bl 0 (.seq (js [jm 6 5,jm 7 0,jq 8 (.len false 7),jb 9 .lss .i 6 8] [0,1,5,9] (.cond 9 .skip (.exit 0))) (.seq (.block 1 (js [jm 12 0,jm 13 5,ja 14 1 12 13,jk 15 14,jm 16 1,jb 17 .eql .s 15 16] [0,1,5,17] (.cond 17 (js [jm 18 5,jm 4 18] [4] .ret) .skip))) (.reg none [jm 10 5,jb 11 .add .i 10 (ki 1),jm 5 11] [0,1,5]))))) (js [jq 4 (.mv (.k (V.i (-1))))] [4] .ret))
def rv89:List RV:=[.t 4]
def dD (g:G) (t:TE) (a1:ByteArray):List ByteArray→Int→LR Int Unit
 |[],v1=>
  (LR.out ())
 |z1::ls1,v1=>
  br (g.seq z1 a1)
  (
   (LR.ret v1))
  (
   dD g t a1 ls1 (g.wrap .i64 (g.add v1 1)))
def cJ (g:G) (t:TE) (a0:List ByteArray) (a1:ByteArray):Int:=
 lP (dD g t a1 a0 0) fun o1=>lrp o1 fun y1=>
 (-1)
theorem dc {g:G} {t:TE} {a0:List ByteArray} {a1:ByteArray} {r:Int} (hg:g=G.real) (ht:t=TE.real) (h:cJ g t a0 a1=r):Fn Tryz.prog 89 [.c (.s 1 (t.r_S a0)),.c (.v (.string a1))] (.c (.r (.v (.int .i64 r)))):=by
 obtain⟨X,hX⟩:=aE (.c (.r (.v (.int .i64 r))):X);rw[←hX];refine aB (rvs:=rv89) (j:=ir89) Tryz.func89 rfl (by kernel_rfl) (nb rfl) (by kernel_rfl) af ?_;intro g2 F hg2 hF;obtain rfl:g2=g:=hg2.unique.trans hg.symm;clear hg2;obtain⟨wrap,lt,_,_,_,_,_,_,_,_,_,_,_,add,_,_,_,seq,_,_,_,llen⟩:=g2;obtain⟨_,_,_,_,_,_,_,_,r_S⟩:=t
 unfold cJ at h;try dsimp only at h
 cbv;obtain⟨o1,ho1,h⟩:=ah h;try dsimp only at h
 try rw[hg] at ho1
 try rw[ht] at ho1
 refine ABL.mk {p:Nat×Int//p.1≤a0.length∧p.2=((p.1:Nat):Int)∧dD G.real TE.real a1 (List.drop p.1 a0) p.2=o1} (fun⟨⟨k1,v1⟩,_⟩=>({sl:=[(0,.c (.r (.s 1 (r_S a0)))),(1,.c (.r (.v (.string a1)))),(5,.c (.r (.v (.int .i64 v1))))],tab:=[]}:St)) 0 (fun p=>a0.length-p.1.1) ⟨(0,0),Nat.zero_le _,rfl,ho1⟩ (Unit) (fun _=>({sl:=[],tab:=[]}:St)) 0 (fun y=>o1=LR.out y) ?_ ?_ ?_
 ·refine Wk.of [] rfl rfl ?_ ?_
  ·cbv;all_goals exact⟨⟨_,rfl,rfl⟩,⟨_,rfl,rfl⟩,⟨_,rfl,rfl⟩,trivial⟩
  cbv;all_goals exact trivial
 ·rintro⟨⟨k1,v1⟩,hk1,hi1,h_1⟩ hq1;have hm1:=(hq1.1 0 _ _ rfl);try dsimp only at hk1 hi1 h_1
  clear hq1;cbv
  by_cases hc1_:k1<a0.length
  ·have hb1:lt v1 (llen (r_S a0))=true:=iu hg ht hi1 hc1_;have hs1:=nq hg ht hi1 hc1_ hm1;obtain⟨z1,hz1⟩:=aW hc1_;rw[aD hz1] at h_1;rw[dD] at h_1;try rw[←hg] at h_1
   try rw[←ht] at h_1
   try dsimp only at h_1
   rw[hb1];cbv;refine AStep.mk (f8 hi1) ?_;cbv;refine AGet.mk _ (kD hg ht hi1 hz1) ?_;cbv
   cases hb2:(seq z1 a1)
   rotate_left
   ·rw[ab hb2] at h_1;cbv;subst h_1;try dsimp only[lr,lrL,lrp,a9] at h
    subst h;exact ARet.mk trivial hX.symm
   rw[aa hb2] at h_1;cbv;try rw[hg] at h_1
   try rw[ht] at h_1
   refine⟨⟨(k1+1,(wrap .i64 (add v1 1))),hc1_,hs1,h_1⟩,Wk.of [] rfl rfl ?_ ?_,a7 hc1_⟩
   ·cbv;all_goals exact⟨⟨_,rfl,rfl⟩,⟨_,rfl,rfl⟩,⟨_,rfl,rfl⟩,trivial⟩
   cbv;all_goals exact trivial
  have hb1:lt v1 (llen (r_S a0))=false:=gQ hg ht hi1 hc1_;rw[List.drop_of_length_le (Nat.le_of_not_lt hc1_)] at h_1;rw[dD] at h_1;try rw[←hg] at h_1
  try rw[←ht] at h_1
  try dsimp only at h_1
  rw[hb1];cbv;refine⟨(),Wk.of [] rfl rfl ?_ ?_,h_1.symm⟩
  ·cbv;all_goals exact trivial
  cbv;all_goals exact trivial
 rintro _ hy1;replace hy1:=hy1.symm;subst hy1;try dsimp only[lr,lrL,lrp,a9] at h
 cbv;subst h;exact ARet.mk trivial hX.symm
def ir98:J:=js [jm 6 kf] [0,1,2] (js [jm 7 0,jm 8 1,jb 9 .geq .i 7 8,jm 10 9,ju 11 10 (.mv 0),ju 12 10 (.mv 2),ju 13 10 (.bin .leq .i 11 12),jq 14 (.pick 10 13 kf),jm 6 14] [6] .ret)
def rv98:List RV:=[.t 6]
def fF (g:G) (t:TE) (a0:Int) (a1:Int) (a2:Int):Bool:=
 br (g.le a1 a0)
 (
  (g.le a0 a2))
 (
  false)
theorem eK {g:G} {t:TE} {a0:Int} {a1:Int} {a2:Int} {r:Bool} (hg:g=G.real) (ht:t=TE.real) (h:fF g t a0 a1 a2=r):Fn Tryz.prog 98 [.c (.v (.int .i64 a0)),.c (.v (.int .i64 a1)),.c (.v (.int .i64 a2))] (.c (.r (.v (.bool r)))):=by
 obtain⟨X,hX⟩:=aE (.c (.r (.v (.bool r))):X);rw[←hX];refine aB (rvs:=rv98) (j:=ir98) Tryz.func98 rfl (by kernel_rfl) (nb rfl) (by kernel_rfl) af ?_;intro g2 F hg2 hF;obtain rfl:g2=g:=hg2.unique.trans hg.symm;clear hg2;obtain⟨_,_,le⟩:=g2;obtain⟨_⟩:=t
 unfold fF at h;try dsimp only at h
 cbv
 cases hb1:(le a1 a0)
 rotate_left
 ·rw[ab hb1] at h;cbv;iterate 3 try(rw[hb1];cbv)
  subst h;exact ARet.mk trivial hX.symm
 rw[aa hb1] at h;cbv;iterate 3 try(rw[hb1];cbv)
 subst h;exact ARet.mk trivial hX.symm
def FF:J:=js [jm 2 kf] [0] (.seq (js [jm 4 0,jq 5 (.len true 4),jb 6 .neq .i 5 (ki 3)] [0,6] (.cond 6 (js [jm 2 kf] [2] .ret) .skip)) (.seq (js [jm 3 (ki 0)] [0,3] (.bl 0 (.seq (js [jm 7 3,jb 8 .lss .i 7 (ki 3)] [0,3,8] (.cond 8 .skip (.exit 0))) (.seq (.block 1 (js [jm 11 0,jm 12 3,jq 13 (.idx 11 12),jq 14 (.cvt .i64 13),jc 15 98 [14,(ki 65),(ki 90)],jq 16 (.not 15)] [0,3,16] (.cond 16 (js [jm 2 kf] [2] .ret) .skip))) (.reg none [jm 9 3,jb 10 .add .i 9 (ki 1),jm 3 10] [0,3]))))) (js [jm 2 kt] [2] .ret)))
def FV:List RV:=[.t 2]
def dE (g:G) (t:TE) (a0:ByteArray):Nat→Int→Option (LR Bool Unit)
 |0,v1=>
  some (LR.out ())
 |n1+1,v1=>
  gd (((0:Int)≤v1∧v1<(((a0.size):Nat):Int)))<|
  lP (fF g t (g.wrap .i64 (g.byte a0 v1)) 65 90) fun x1=>
  br x1
  (
   dE g t a0 n1 (g.wrap .i64 (g.add v1 1)))
  (
   some (LR.ret false))
def ip (g:G) (t:TE) (a0:ByteArray):Option Bool:=
 br (g.eq (g.int (g.slen a0)) 3)
 (
  cl (dE g t a0 (ap 0 3) 0) fun o1=>lr o1 fun y1=>
  some true)
 (
  some false)
theorem ph {g:G} {t:TE} {a0:ByteArray} {r:Bool} (hg:g=G.real) (ht:t=TE.real) (h:ip g t a0=some r):Fn Tryz.prog 152 [.c (.v (.string a0))] (.c (.r (.v (.bool r)))):=by
 obtain⟨X,hX⟩:=aE (.c (.r (.v (.bool r))):X);rw[←hX];refine aB (rvs:=FV) (j:=FF) Tryz.func152 rfl (by kernel_rfl) (nb rfl) (by kernel_rfl) af ?_;intro g2 F hg2 hF;obtain rfl:g2=g:=hg2.unique.trans hg.symm;clear hg2;obtain⟨wrap,lt,_,eq,_,_,_,_,_,_,_,_,int,add,_,_,_,_,_,_,_,_,_,_,_,_,_,_,_,_,_,_,_,_,_,slen⟩:=g2;obtain⟨_⟩:=t
 unfold ip at h;try dsimp only at h
 cbv
 cases hb1:(eq (int (slen a0)) 3)
 ·rw[aa hb1] at h;cbv;obtain rfl:=Option.some.inj h;exact ARet.mk trivial hX.symm
 rw[ab hb1] at h;cbv;obtain⟨o1,ho1,h⟩:=ac h;try dsimp only at h
 try rw[hg] at ho1
 try rw[ht] at ho1
 refine ABL.mk {p:Nat×Int//p.1=ap p.2 3∧0≤p.2∧dE G.real TE.real a0 p.1 p.2=some o1} (fun⟨⟨n1,v1⟩,_⟩=>({sl:=[(0,.c (.r (.v (.string a0)))),(3,.c (.r (.v (.int .i64 v1))))],tab:=[]}:St)) 0 (fun p=>p.1.1) ⟨(ap 0 3,0),rfl,Int.le_refl _,ho1⟩ (Unit) (fun _=>({sl:=[],tab:=[]}:St)) 0 (fun y=>o1=LR.out y) ?_ ?_ ?_
 ·refine Wk.of [] rfl rfl ?_ ?_
  ·cbv;all_goals exact⟨⟨_,rfl,rfl⟩,⟨_,rfl,rfl⟩,trivial⟩
  cbv;all_goals exact trivial
 ·rintro⟨⟨n1,v1⟩,hn1,hi1,h_1⟩ hq1;try dsimp only at hn1 hi1 h_1
  clear hq1;cbv;rcases n1 with _|n1
  ·have hb2:lt v1 3=false:=bc hg hn1;rw[dE] at h_1;try rw[←hg] at h_1
   try rw[←ht] at h_1
   try dsimp only at h_1
   rw[hb2];cbv;refine⟨(),Wk.of [] rfl rfl ?_ ?_,(Option.some.inj h_1).symm⟩
   ·cbv;all_goals exact trivial
   cbv;all_goals exact trivial
  have hb2:lt v1 3=true:=bz hg hn1;have hl1:=dj hn1;have hs1:=cr hg hn1 hi1 (by decide) (by decide);rw[dE] at h_1;try rw[←hg] at h_1
  try rw[←ht] at h_1
  try dsimp only at h_1
  rw[hb2];cbv;obtain⟨hc1,h_1⟩:=aj h_1;refine AStep.mk hc1 ?_;cbv;obtain⟨x1,hx1,h_1⟩:=ah h_1;try dsimp only at h_1
  refine ACall.mk _ _ rfl (hF _ _ _ (eK hg ht hx1)) (.inl rfl) (nb rfl) ?_;cbv
  cases hb3:x1
  ·rw[aa hb3] at h_1;cbv;obtain rfl:=Option.some.inj h_1;try dsimp only[lr,lrL,lrp,a9] at h
   obtain rfl:=Option.some.inj h;exact ARet.mk trivial hX.symm
  rw[ab hb3] at h_1;cbv;try rw[hg] at h_1
  try rw[ht] at h_1
  refine⟨⟨(n1,(wrap .i64 (add v1 1))),hs1.1,hs1.2,h_1⟩,Wk.of [] rfl rfl ?_ ?_,Nat.lt_succ_self _⟩
  ·cbv;all_goals exact⟨⟨_,rfl,rfl⟩,⟨_,rfl,rfl⟩,trivial⟩
  cbv;all_goals exact trivial
 rintro _ hy1;replace hy1:=hy1.symm;subst hy1;try dsimp only[lr,lrL,lrp,a9] at h
 cbv;obtain rfl:=Option.some.inj h;exact ARet.mk trivial hX.symm
def Fi:J:=js [jq 1 (.box 0),jm 2 kf] [1] (js [jf 3 0 1,jk 4 3,jc 5 152 [4],jm 6 5,ju 7 6 (.fa 1 1),ju 8 6 (.ld false 1 7),ju 9 6 (.call 152 true [8]),jq 10 (.pick 6 9 kf),jm 11 10,ju 12 11 (.fa 0 1),ju 13 11 (.ld false 1 12),ju 14 11 (.fa 1 1),ju 15 11 (.ld false 1 14),ju 16 11 (.bin .neq .s 13 15),jq 17 (.pick 11 16 kf),jm 18 17,ju 19 18 (.fa 2 1),ju 20 18 (.ld false 1 19),ju 21 18 (.call 98 true [20,(ki 0),(ki 1439)]),jq 22 (.pick 18 21 kf),jm 23 22,ju 24 23 (.fa 3 1),ju 25 23 (.ld false 1 24),ju 26 23 (.call 98 true [25,(ki 1),(ki 4320)]),jq 27 (.pick 23 26 kf),jm 28 27,ju 29 28 (.fa 4 1),ju 30 28 (.ld false 1 29),ju 31 28 (.call 98 true [30,(ki 1),(ki 127)]),jq 32 (.pick 28 31 kf),jm 33 32,ju 34 33 (.fa 5 1),ju 35 33 (.ld false 1 34),ju 36 33 (.call 98 true [35,(ki 0),(ki 1000000)]),jq 37 (.pick 33 36 kf),jm 2 37] [2] .ret)
def Gh:List RV:=[.t 2]
def nJ (g:G) (t:TE) (a0:Leg):Option Bool:=
 cl (ip g t a0.From) fun x1=>
 br x1
 (
  cl (ip g t a0.To) fun x2=>
  br x2
  (
   br (g.seq a0.From a0.To)
   (
    some false)
   (
    lP (fF g t a0.Start 0 1439) fun x3=>
    br x3
    (
     lP (fF g t a0.Takes 1 4320) fun x4=>
     br x4
     (
      lP (fF g t a0.Days 1 127) fun x5=>
      br x5
      (
       lP (fF g t a0.Room 0 1000000) fun x6=>
       some x6)
      (
       some false))
     (
      some false))
    (
     some false)))
  (
   some false))
 (
  some false)
theorem zy {g:G} {t:TE} {a0:Leg} {r:Bool} (hg:g=G.real) (ht:t=TE.real) (h:nJ g t a0=some r):Fn Tryz.prog 124 [.g (Leg.rs t a0)] (.c (.r (.v (.bool r)))):=by
 obtain⟨X,hX⟩:=aE (.c (.r (.v (.bool r))):X);rw[←hX];refine aB (rvs:=Gh) (j:=Fi) Tryz.func124 rfl (by kernel_rfl) (nb rfl) (by kernel_rfl) af ?_;intro g2 F hg2 hF;obtain rfl:g2=g:=hg2.unique.trans hg.symm;clear hg2;obtain⟨_,_,_,_,_,_,_,_,_,_,_,_,_,_,_,_,_,seq⟩:=g2;obtain⟨_⟩:=t
 obtain⟨a0_From,a0_To,a0_Start,a0_Takes,a0_Days,a0_Room⟩:=a0;unfold nJ at h;try dsimp only at h
 cbv;obtain⟨x1,hx1,h⟩:=ac h;try dsimp only at h
 refine ACall.mk _ _ rfl (hF _ _ _ (ph hg ht hx1)) (.inl rfl) (nb rfl) ?_;cbv
 cases hb1:x1
 ·rw[aa hb1] at h;cbv;iterate 3 try(rw[hb1];cbv)
  obtain rfl:=Option.some.inj h;exact ARet.mk trivial hX.symm
 rw[ab hb1] at h;cbv;iterate 2 try(rw[hb1];cbv)
 obtain⟨x2,hx2,h⟩:=ac h;try dsimp only at h
 refine ACall.mk _ _ rfl (hF _ _ _ (ph hg ht hx2)) (.inl rfl) (nb rfl) ?_;cbv;try(rw[hb1];cbv)
 cases hb2:x2
 ·rw[aa hb2] at h;cbv;iterate 5 try(rw[hb2];cbv)
  obtain rfl:=Option.some.inj h;exact ARet.mk trivial hX.symm
 rw[ab hb2] at h;cbv;iterate 5 try(rw[hb2];cbv)
 cases hb3:(seq a0_From a0_To)
 rotate_left
 ·rw[ab hb3] at h;cbv;iterate 3 try(rw[hb3];cbv)
  obtain rfl:=Option.some.inj h;exact ARet.mk trivial hX.symm
 rw[aa hb3] at h;cbv;iterate 2 try(rw[hb3];cbv)
 obtain⟨x3,hx3,h⟩:=ah h;try dsimp only at h
 refine ACall.mk _ _ rfl (hF _ _ _ (eK hg ht hx3)) (.inl rfl) (nb rfl) ?_;cbv;try(rw[hb3];cbv)
 cases hb4:x3
 ·rw[aa hb4] at h;cbv;iterate 3 try(rw[hb4];cbv)
  obtain rfl:=Option.some.inj h;exact ARet.mk trivial hX.symm
 rw[ab hb4] at h;cbv;iterate 2 try(rw[hb4];cbv)
 obtain⟨x4,hx4,h⟩:=ah h;try dsimp only at h
 refine ACall.mk _ _ rfl (hF _ _ _ (eK hg ht hx4)) (.inl rfl) (nb rfl) ?_;cbv;try(rw[hb4];cbv)
 cases hb5:x4
 ·rw[aa hb5] at h;cbv;iterate 3 try(rw[hb5];cbv)
  obtain rfl:=Option.some.inj h;exact ARet.mk trivial hX.symm
 rw[ab hb5] at h;cbv;iterate 2 try(rw[hb5];cbv)
 obtain⟨x5,hx5,h⟩:=ah h;try dsimp only at h
 refine ACall.mk _ _ rfl (hF _ _ _ (eK hg ht hx5)) (.inl rfl) (nb rfl) ?_;cbv;try(rw[hb5];cbv)
 cases hb6:x5
 ·rw[aa hb6] at h;cbv;iterate 3 try(rw[hb6];cbv)
  obtain rfl:=Option.some.inj h;exact ARet.mk trivial hX.symm
 rw[ab hb6] at h;cbv;iterate 2 try(rw[hb6];cbv)
 obtain⟨x6,hx6,h⟩:=ah h;try dsimp only at h
 refine ACall.mk _ _ rfl (hF _ _ _ (eK hg ht hx6)) (.inl rfl) (nb rfl) ?_;cbv;try(rw[hb6];cbv)
 obtain rfl:=Option.some.inj h;exact ARet.mk trivial hX.symm
def ir95:J:=js [jq 1 (.box 0),jm 2 kf] [1] (.seq (js [jm 3 (ki 0)] [1,3] (.bl 0 (.seq (js [jm 5 3,jf 6 0 1,jk 7 6,jq 8 (.len false 7),jb 9 .lss .i 5 8] [1,3,9] (.cond 9 .skip (.exit 0))) (.seq (.block 1 (js [jf 12 0 1,jk 13 12,jm 14 3,ja 15 6 13 14,jl 16 6 15,jc 17 124 [16],jq 18 (.not 17)] [1,3,18] (.cond 18 (js [jm 2 kf] [2] .ret) .skip))) (.reg none [jm 10 3,jb 11 .add .i 10 (ki 1),jm 3 11] [1,3]))))) (.seq (js [jm 4 (ki 0)] [1,4] (.bl 2 (.seq (js [jm 19 4,jf 20 1 1,jk 21 20,jq 22 (.len false 21),jb 23 .lss .i 19 22] [1,4,23] (.cond 23 .skip (.exit 2))) (.seq (.block 3 (.seq (.reg (some [[],[0],[],[0,1,2],[0,1,2,3],[0,1,2,3,4],[0,1,2,3,4,5],[0,1,2,3,4,5,6],[0,1,2,3,4,5,6,7],[0,1,2,3,4,5,6,7,8],[0,1,2,3,4,5,6,7,8,9],[0,1,2,3,4,5,6,7,8,9,10],[0,1,2,3,4,5,6,7,8,9,10,11],[0,1,2,3,4,5,6,7,8,9,10],[0,1,2,3,4,5,6,7,8,9,10,13],[0,1,2,3,4,5,6,7,8,9,10,11,12,13,14],[0,1,2,3,4,5,6,7,8,9,10,11,12,13,14,15],[0,1,2,3,4,5,6,7,8,9,10],[0,1,2,3,4,5,6,7,8,9,10,17],[0,1,2,3,4,5,6,7,8,9,10],[0,1,2,3,4,5,6,7,8,9,10,17,18,19],[0,1,2,3,4,5,6,7,8,9,10,17,18,19,20],[0,1,2,3,4,5,6,7,8,9,10,11,12,13,14,15,16,17,18,19,20,21],[0,1,2,3,4,5,6,7,8,9,10,11,12,13,14,15,16,17,18,19,20,21,22],[0,1,2,3,4,5,6,7,8,9,10,11,12,13,14,15,16,17,18,19,20,21,22,23]]) [jf 26 1 1,jk 27 26,jm 28 4,ja 29 1 27 28,jk 30 29,jc 31 98 [30,(ki 0),(ki 60)],jq 32 (.not 31),jm 33 32,jv 34 33 (.mv 4),jv 35 33 (.bin .gtr .i 34 (ki 0)),jv 36 33 (.mv 35),ju 37 36 (.fa 1 1),ju 38 36 (.ld false 1 37),ju 39 36 (.mv 4),ju 40 36 (.bin .sub .i 39 (ki 1)),ju 41 36 (.ia 1 38 40),ju 42 36 (.ld false 1 41),ju 43 36 (.fa 1 1),ju 44 36 (.ld false 1 43),ju 45 36 (.mv 4),ju 46 36 (.ia 1 44 45),ju 47 36 (.ld false 1 46),ju 48 36 (.bin .geq .i 42 47),jv 49 33 (.pick 36 48 kf),jq 50 (.pick 33 kt 49)] [1,4,50]) (.cond 50 (js [jm 2 kf] [2] .ret) .skip))) (.reg none [jm 24 4,jb 25 .add .i 24 (ki 1),jm 4 25] [1,4]))))) (js [jf 51 0 1,jk 52 51,jq 53 (.len false 52),jb 54 .leq .i 53 (ki 20),jm 55 54,ju 56 55 (.fa 1 1),ju 57 55 (.ld false 1 56),ju 58 55 (.len false 57),ju 59 55 (.bin .leq .i 58 (ki 10)),jq 60 (.pick 55 59 kf),jm 61 60,ju 62 61 (.fa 2 1),ju 63 61 (.ld false 1 62),ju 64 61 (.call 98 true [63,(ki 0),(ki 240)]),jq 65 (.pick 61 64 kf),jm 2 65] [2] .ret)))
def rv95:List RV:=[.t 2]
def bY (g:G) (t:TE) (a0:Network):List Int→Int→Option (LR Bool Unit)
 |[],v2=>
  some (LR.out ())
 |z2::ls2,v2=>
  lP (fF g t z2 0 60) fun x2=>
  br x2
  (
   br (g.lt 0 v2)
   (
    gd (((0:Int)≤(g.wrap .i64 (g.sub v2 1))))<|
    gt a0.Off (g.nat (g.wrap .i64 (g.sub v2 1))) fun x3=>
    br (g.le z2 x3)
    (
     some (LR.ret false))
    (
     bY g t a0 ls2 (g.wrap .i64 (g.add v2 1))))
   (
    bY g t a0 ls2 (g.wrap .i64 (g.add v2 1))))
  (
   some (LR.ret false))
def cD (g:G) (t:TE):List Leg→Option (LR Bool Unit)
 |[]=>
  some (LR.out ())
 |z1::ls1=>
  cl (nJ g t z1) fun x1=>
  br x1
  (
   cD g t ls1)
  (
   some (LR.ret false))
def cX (g:G) (t:TE) (a0:Network):Option Bool:=
 cl (cD g t a0.Legs) fun o1=>lr o1 fun y1=>
 cl (bY g t a0 a0.Off 0) fun o2=>lr o2 fun y2=>
 br (g.le (g.llen (t.r_Leg a0.Legs)) 20)
 (
  br (g.le (g.llen (t.r_I64 a0.Off)) 10)
  (
   lP (fF g t a0.Change 0 240) fun x4=>
   some x4)
  (
   some false))
 (
  some false)
theorem gI {g:G} {t:TE} {a0:Network} {r:Bool} (hg:g=G.real) (ht:t=TE.real) (h:cX g t a0=some r):Fn Tryz.prog 95 [.g (Network.rs t a0)] (.c (.r (.v (.bool r)))):=by
 obtain⟨X,hX⟩:=aE (.c (.r (.v (.bool r))):X);rw[←hX];refine aB (rvs:=rv95) (j:=ir95) Tryz.func95 rfl (by kernel_rfl) (nb rfl) (by kernel_rfl) af ?_;intro g2 F hg2 hF;obtain rfl:g2=g:=hg2.unique.trans hg.symm;clear hg2;obtain⟨wrap,lt,le,_,_,_,_,_,_,_,_,_,_,add,_,_,_,_,_,_,_,llen⟩:=g2;obtain⟨_,_,r_Leg,_,r_I64⟩:=t
 obtain⟨a0_Legs,a0_Off,a0_Change⟩:=a0;unfold cX at h;try dsimp only at h
 cbv;obtain⟨o1,ho1,h⟩:=ac h;try dsimp only at h
 try rw[hg] at ho1
 try rw[ht] at ho1
 refine ABL.mk {p:Nat×Int//p.1≤a0_Legs.length∧p.2=((p.1:Nat):Int)∧cD G.real TE.real (List.drop p.1 a0_Legs)=some o1} (fun⟨⟨k1,v1⟩,_⟩=>({sl:=[(1,.c (.p 0 3 0 0)),(3,.c (.r (.v (.int .i64 v1))))],tab:=[(0,some (.foc 3 [] [.r (.s 6 (r_Leg a0_Legs)),.r (.s 1 (r_I64 a0_Off)),.r (.v (.int .i64 a0_Change))] []))]}:St)) 1 (fun p=>a0_Legs.length-p.1.1) ⟨(0,0),Nat.zero_le _,rfl,ho1⟩ (Unit) (fun _=>({sl:=[(1,.c (.p 0 3 0 0))],tab:=[(0,some (.foc 3 [] [.r (.s 6 (r_Leg a0_Legs)),.r (.s 1 (r_I64 a0_Off)),.r (.v (.int .i64 a0_Change))] []))]}:St)) 1 (fun y=>o1=LR.out y) ?_ ?_ ?_
 ·refine Wk.of [(0,some 0)] rfl rfl ?_ ?_
  ·cbv;all_goals exact⟨⟨_,rfl,rfl⟩,⟨_,rfl,rfl⟩,trivial⟩
  cbv;all_goals exact⟨⟨_,rfl,_,rfl,rfl,rfl,rfl,trivial⟩,trivial⟩
 ·rintro⟨⟨k1,v1⟩,hk1,hi1,h_1⟩ hq1;have hm1:=(hq1.2.2.1 0 _ _ _ _ 0 _ _ rfl rfl);try dsimp only at hk1 hi1 h_1
  clear hq1;cbv
  by_cases hc1_:k1<a0_Legs.length
  ·have hb1:lt v1 (llen (r_Leg a0_Legs))=true:=ee hg ht hi1 hc1_;have hs1:=gB hg ht hi1 hc1_ hm1;obtain⟨z1,hz1⟩:=aW hc1_;rw[aD hz1] at h_1;rw[cD] at h_1;obtain⟨z1_From,z1_To,z1_Start,z1_Takes,z1_Days,z1_Room⟩:=z1;try rw[←hg] at h_1
   try rw[←ht] at h_1
   try dsimp only at h_1
   rw[hb1];cbv;refine AStep.mk (f8 hi1) ?_;cbv;refine AGet.mk _ (eD hg ht hi1 hz1) ?_;cbv;obtain⟨x1,hx1,h_1⟩:=ac h_1;try dsimp only at h_1
   refine ACall.mk _ _ rfl (hF _ _ _ (zy hg ht hx1)) (.inl rfl) (nb rfl) ?_;cbv
   cases hb2:x1
   ·rw[aa hb2] at h_1;cbv;obtain rfl:=Option.some.inj h_1;try dsimp only[lr,lrL,lrp,a9] at h
    obtain rfl:=Option.some.inj h;exact ARet.mk trivial hX.symm
   rw[ab hb2] at h_1;cbv;try rw[hg] at h_1
   try rw[ht] at h_1
   refine⟨⟨(k1+1,(wrap .i64 (add v1 1))),hc1_,hs1,h_1⟩,Wk.of [(0,some 0)] rfl rfl ?_ ?_,a7 hc1_⟩
   ·cbv;all_goals exact⟨⟨_,rfl,rfl⟩,⟨_,rfl,rfl⟩,trivial⟩
   cbv;all_goals exact⟨⟨_,rfl,_,rfl,rfl,rfl,rfl,trivial⟩,trivial⟩
  have hb1:lt v1 (llen (r_Leg a0_Legs))=false:=dJ hg ht hi1 hc1_;rw[List.drop_of_length_le (Nat.le_of_not_lt hc1_)] at h_1;rw[cD] at h_1;try rw[←hg] at h_1
  try rw[←ht] at h_1
  try dsimp only at h_1
  rw[hb1];cbv;refine⟨(),Wk.of [(0,some 0)] rfl rfl ?_ ?_,(Option.some.inj h_1).symm⟩
  ·cbv;all_goals exact⟨⟨_,rfl,rfl⟩,trivial⟩
  cbv;all_goals exact⟨⟨_,rfl,_,rfl,rfl,rfl,rfl,trivial⟩,trivial⟩
 rintro _ hy1;replace hy1:=hy1.symm;subst hy1;try dsimp only[lr,lrL,lrp,a9] at h
 cbv;obtain⟨o2,ho2,h⟩:=ac h;try dsimp only at h
 try rw[hg] at ho2
 try rw[ht] at ho2
 refine ABL.mk {p:Nat×Int//p.1≤a0_Off.length∧p.2=((p.1:Nat):Int)∧bY G.real TE.real (Network.mk a0_Legs a0_Off a0_Change) (List.drop p.1 a0_Off) p.2=some o2} (fun⟨⟨k2,v2⟩,_⟩=>({sl:=[(1,.c (.p 0 3 0 0)),(4,.c (.r (.v (.int .i64 v2))))],tab:=[(0,some (.foc 3 [] [.r (.s 6 (r_Leg a0_Legs)),.r (.s 1 (r_I64 a0_Off)),.r (.v (.int .i64 a0_Change))] []))]}:St)) 1 (fun p=>a0_Off.length-p.1.1) ⟨(0,0),Nat.zero_le _,rfl,ho2⟩ (Unit) (fun _=>({sl:=[(1,.c (.p 0 3 0 0))],tab:=[(0,some (.foc 3 [] [.r (.s 6 (r_Leg a0_Legs)),.r (.s 1 (r_I64 a0_Off)),.r (.v (.int .i64 a0_Change))] []))]}:St)) 1 (fun y=>o2=LR.out y) ?_ ?_ ?_
 ·refine Wk.of [(0,some 0)] rfl rfl ?_ ?_
  ·cbv;all_goals exact⟨⟨_,rfl,rfl⟩,⟨_,rfl,rfl⟩,trivial⟩
  cbv;all_goals exact⟨⟨_,rfl,_,rfl,rfl,rfl,rfl,trivial⟩,trivial⟩
 ·rintro⟨⟨k2,v2⟩,hk2,hi2,h_2⟩ hq2;have hm2:=(hq2.2.2.1 0 _ _ _ _ 1 _ _ rfl rfl);try dsimp only at hk2 hi2 h_2
  clear hq2;cbv
  by_cases hc2_:k2<a0_Off.length
  ·have hb3:lt v2 (llen (r_I64 a0_Off))=true:=gg hg ht hi2 hc2_;have hs2:=jB hg ht hi2 hc2_ hm2;obtain⟨z2,hz2⟩:=aW hc2_;rw[aD hz2] at h_2;rw[bY] at h_2;try rw[←hg] at h_2
   try rw[←ht] at h_2
   try dsimp only at h_2
   rw[hb3];cbv;refine AStep.mk (f8 hi2) ?_;cbv;refine AGet.mk _ (gm hg ht hi2 hz2) ?_;cbv;obtain⟨x2,hx2,h_2⟩:=ah h_2;try dsimp only at h_2
   refine ACall.mk _ _ rfl (hF _ _ _ (eK hg ht hx2)) (.inl rfl) (nb rfl) ?_;cbv
   cases hb4:x2
   ·rw[aa hb4] at h_2;cbv;iterate 4 try(rw[hb4];cbv)
    obtain rfl:=Option.some.inj h_2;try dsimp only[lr,lrL,lrp,a9] at h
    obtain rfl:=Option.some.inj h;exact ARet.mk trivial hX.symm
   rw[ab hb4] at h_2;cbv;iterate 2 try(rw[hb4];cbv)
   cases hb5:(lt 0 v2)
   ·rw[aa hb5] at h_2;cbv;iterate 11 try(rw[hb5];cbv)
    try(rw[hb4];cbv)
    try(rw[hb5];cbv)
    try(rw[hb4];cbv)
    try rw[hg] at h_2
    try rw[ht] at h_2
    refine⟨⟨(k2+1,(wrap .i64 (add v2 1))),hc2_,hs2,h_2⟩,Wk.of [(0,some 0)] rfl rfl ?_ ?_,a7 hc2_⟩
    ·cbv;all_goals exact⟨⟨_,rfl,rfl⟩,⟨_,rfl,rfl⟩,trivial⟩
    cbv;all_goals exact⟨⟨_,rfl,_,rfl,rfl,rfl,rfl,trivial⟩,trivial⟩
   rw[ab hb5] at h_2;cbv;iterate 4 try(rw[hb5];cbv)
   obtain⟨hc1,h_2⟩:=aj h_2;refine AStep.mk hc1 ?_;cbv;obtain⟨x3,hx3,h_2⟩:=aP h_2;try dsimp only at h_2
   refine AGet.mk _ (fM hg ht hx3) ?_;cbv;iterate 5 try(rw[hb5];cbv)
   refine AStep.mk (f8 hi2) ?_;cbv;refine AGet.mk _ (gm hg ht hi2 hz2) ?_;cbv;iterate 2 try(rw[hb5];cbv)
   try(rw[hb4];cbv)
   try(rw[hb5];cbv)
   try(rw[hb4];cbv)
   cases hb6:(le z2 x3)
   rotate_left
   ·rw[ab hb6] at h_2;cbv;obtain rfl:=Option.some.inj h_2;try dsimp only[lr,lrL,lrp,a9] at h
    obtain rfl:=Option.some.inj h;exact ARet.mk trivial hX.symm
   rw[aa hb6] at h_2;cbv;try rw[hg] at h_2
   try rw[ht] at h_2
   refine⟨⟨(k2+1,(wrap .i64 (add v2 1))),hc2_,hs2,h_2⟩,Wk.of [(0,some 0)] rfl rfl ?_ ?_,a7 hc2_⟩
   ·cbv;all_goals exact⟨⟨_,rfl,rfl⟩,⟨_,rfl,rfl⟩,trivial⟩
   cbv;all_goals exact⟨⟨_,rfl,_,rfl,rfl,rfl,rfl,trivial⟩,trivial⟩
  have hb3:lt v2 (llen (r_I64 a0_Off))=false:=fq hg ht hi2 hc2_;rw[List.drop_of_length_le (Nat.le_of_not_lt hc2_)] at h_2;rw[bY] at h_2;try rw[←hg] at h_2
  try rw[←ht] at h_2
  try dsimp only at h_2
  rw[hb3];cbv;refine⟨(),Wk.of [(0,some 0)] rfl rfl ?_ ?_,(Option.some.inj h_2).symm⟩
  ·cbv;all_goals exact⟨⟨_,rfl,rfl⟩,trivial⟩
  cbv;all_goals exact⟨⟨_,rfl,_,rfl,rfl,rfl,rfl,trivial⟩,trivial⟩
 rintro _ hy2;replace hy2:=hy2.symm;subst hy2;try dsimp only[lr,lrL,lrp,a9] at h
 cbv
 cases hb7:(le (llen (r_Leg a0_Legs)) 20)
 ·rw[aa hb7] at h;cbv;iterate 4 try(rw[hb7];cbv)
  obtain rfl:=Option.some.inj h;exact ARet.mk trivial hX.symm
 rw[ab hb7] at h;cbv;iterate 4 try(rw[hb7];cbv)
 cases hb8:(le (llen (r_I64 a0_Off)) 10)
 ·rw[aa hb8] at h;cbv;iterate 3 try(rw[hb8];cbv)
  obtain rfl:=Option.some.inj h;exact ARet.mk trivial hX.symm
 rw[ab hb8] at h;cbv;iterate 2 try(rw[hb8];cbv)
 obtain⟨x4,hx4,h⟩:=ah h;try dsimp only at h
 refine ACall.mk _ _ rfl (hF _ _ _ (eK hg ht hx4)) (.inl rfl) (nb rfl) ?_;cbv;try(rw[hb8];cbv)
 obtain rfl:=Option.some.inj h;exact ARet.mk trivial hX.symm
def ir30:J:=js [jm 4 (ki 0)] [0,1] (.seq (js [jm 5 1,jm 6 0,jb 7 .gtr .i 5 6] [0,1,7] (.cond 7 (js [jm 8 1,jm 4 8] [4] .ret) .skip)) (js [jm 9 0,jm 4 9] [4] .ret))
def rv30:List RV:=[.t 4]
def qc (g:G) (t:TE) (a0:Int) (a1:Int):Int:=
 br (g.lt a0 a1)
 (
  a1)
 (
  a0)
theorem uv {g:G} {t:TE} {a0:Int} {a1:Int} {r:Int} (hg:g=G.real) (ht:t=TE.real) (h:qc g t a0 a1=r):Fn Tryz.prog 30 [.c (.v (.int .i64 a0)),.c (.v (.int .i64 a1))] (.c (.r (.v (.int .i64 r)))):=by
 obtain⟨X,hX⟩:=aE (.c (.r (.v (.int .i64 r))):X);rw[←hX];refine aB (rvs:=rv30) (j:=ir30) Tryz.func30 rfl (by kernel_rfl) (nb rfl) (by kernel_rfl) af ?_;intro g2 F hg2 hF;obtain rfl:g2=g:=hg2.unique.trans hg.symm;clear hg2;obtain⟨_,lt⟩:=g2;obtain⟨_⟩:=t
 unfold qc at h;try dsimp only at h
 cbv
 cases hb1:(lt a0 a1)
 rotate_left
 ·rw[ab hb1] at h;cbv;subst h;exact ARet.mk trivial hX.symm
 rw[aa hb1] at h;cbv;subst h;exact ARet.mk trivial hX.symm
def FQ:J:=js [jq 6 (.mv (.k (.c (.n 1))))] [0,1,2] (js [jq 9 (.bsl 1 []),jm 7 9] [0,1,2,7] (.seq (js [jm 8 (ki 0)] [0,1,2,7,8] (.bl 0 (.seq (js [jm 10 8,jm 11 0,jq 12 (.len false 11),jb 13 .lss .i 10 12] [0,1,2,7,8,13] (.cond 13 .skip (.exit 0))) (.seq (.block 1 (js [jm 16 8,jm 17 1,jb 18 .eql .i 16 17] [0,1,2,7,8,18] (.cond 18 (.reg none [jm 19 7,jm 20 2,jc 21 30 [20,(ki 0)],jq 22 (.bsl 1 [21]),jq 23 (.app 1 8 true 19 22),jm 7 23] [0,1,2,7,8]) (.reg none [jm 24 7,jq 25 (.bsl 1 [(.k (V.i (-1)))]),jq 26 (.app 1 8 true 24 25),jm 7 26] [0,1,2,7,8])))) (.reg none [jm 14 8,jb 15 .add .i 14 (ki 1),jm 8 15] [0,1,2,7,8]))))) (js [jm 27 7,jm 6 27] [6] .ret)))
def F0:List RV:=[.t 6]
def cV (g:G) (t:TE) (a1:Int) (a2:Int):List ByteArray→Int→List Int→Option (List Int)
 |[],v1,w1=>
  some w1
 |z1::ls1,v1,w1=>
  br (g.eq v1 a1)
  (
   lP (qc g t a2 0) fun x1=>
   lP ([x1]) fun(l2:List Int)=>
   gd (((w1.length+l2.length)*8≤70368744177664))<|
   lP (w1++l2) fun(l3:List Int)=>
   cV g t a1 a2 ls1 (g.wrap .i64 (g.add v1 1)) l3)
  (
   lP ([(-1)]) fun(l4:List Int)=>
   gd (((w1.length+l4.length)*8≤70368744177664))<|
   lP (w1++l4) fun(l5:List Int)=>
   cV g t a1 a2 ls1 (g.wrap .i64 (g.add v1 1)) l5)
def jI (g:G) (t:TE) (a0:List ByteArray) (a1:Int) (a2:Int):Option (List Int):=
 lP ([]) fun(l1:List Int)=>
 cl (cV g t a1 a2 a0 0 l1) fun y1=>
 some y1
theorem uG {g:G} {t:TE} {a0:List ByteArray} {a1:Int} {a2:Int} {r:List Int} (hg:g=G.real) (ht:t=TE.real) (h:jI g t a0 a1 a2=some r):Fn Tryz.prog 119 [.c (.s 1 (t.r_S a0)),.c (.v (.int .i64 a1)),.c (.v (.int .i64 a2))] (.c (.o 1 (t.d_I64 r))):=by
 obtain⟨X,hX⟩:=aE (.c (.o 1 (t.d_I64 r)):X);rw[←hX];refine aB (rvs:=F0) (j:=FQ) Tryz.func119 rfl (by kernel_rfl) (nb rfl) (by kernel_rfl) af ?_;intro g2 F hg2 hF;obtain rfl:g2=g:=hg2.unique.trans hg.symm;clear hg2;obtain⟨wrap,lt,_,eq,_,_,_,_,_,_,_,_,_,add,_,_,_,_,_,_,_,llen,_,_,dlen⟩:=g2;obtain⟨_,_,_,_,_,d_I64,_,_,r_S⟩:=t
 unfold jI at h;try dsimp only at h
 cbv;obtain⟨l1,hl1,h⟩:=ah h;try dsimp only at h
 refine ANew.mk (d_I64 l1) (dlen (d_I64 l1)) (by rw[←hl1];exact dN hg ht []) (by rw[←hl1];exact df hg ht []) ?_;cbv;obtain⟨o1,ho1,h⟩:=ac h;try dsimp only at h
 try rw[hg] at ho1
 try rw[ht] at ho1
 refine ABL.mk {p:Nat×Int×List Int//p.1≤a0.length∧p.2.1=((p.1:Nat):Int)∧cV G.real TE.real a1 a2 (List.drop p.1 a0) p.2.1 p.2.2=some o1} (fun⟨⟨k1,v1,w1⟩,_⟩=>({sl:=[(0,.c (.r (.s 1 (r_S a0)))),(1,.c (.r (.v (.int .i64 a1)))),(2,.c (.r (.v (.int .i64 a2)))),(7,.c (.f 0 1 0 (dlen (d_I64 w1)))),(8,.c (.r (.v (.int .i64 v1))))],tab:=[(0,some (.arr 1 (d_I64 w1)))]}:St)) 1 (fun p=>a0.length-p.1.1) ⟨(0,0,l1),Nat.zero_le _,rfl,ho1⟩ (List Int) (fun y1=>({sl:=[(7,.c (.f 0 1 0 (dlen (d_I64 y1))))],tab:=[(0,some (.arr 1 (d_I64 y1)))]}:St)) 1 (fun y=>o1=y) ?_ ?_ ?_
 ·refine Wk.of [(0,some 16)] rfl rfl ?_ ?_
  ·cbv;all_goals exact⟨⟨_,rfl,rfl⟩,⟨_,rfl,rfl⟩,⟨_,rfl,rfl⟩,⟨_,rfl,rfl⟩,⟨_,rfl,rfl⟩,trivial⟩
  cbv;all_goals exact⟨⟨_,rfl,rfl⟩,trivial⟩
 ·rintro⟨⟨k1,v1,w1⟩,hk1,hi1,h_1⟩ hq1;have hm1:=(hq1.1 0 _ _ rfl);try dsimp only at hk1 hi1 h_1
  clear hq1;cbv
  by_cases hc1_:k1<a0.length
  ·have hb1:lt v1 (llen (r_S a0))=true:=iu hg ht hi1 hc1_;have hs1:=nq hg ht hi1 hc1_ hm1;obtain⟨z1,hz1⟩:=aW hc1_;rw[aD hz1] at h_1;rw[cV] at h_1;try rw[←hg] at h_1
   try rw[←ht] at h_1
   try dsimp only at h_1
   rw[hb1];cbv
   cases hb2:(eq v1 a1)
   ·rw[aa hb2] at h_1;cbv;obtain⟨l4,hl4,h_1⟩:=ah h_1;try dsimp only at h_1
    refine ANew.mk (d_I64 l4) (dlen (d_I64 l4)) (by rw[←hl4];exact dN hg ht [(-1)]) (by rw[←hl4];exact df hg ht [(-1)]) ?_;cbv;obtain⟨hc2,h_1⟩:=aj h_1;refine AStep.mk ⟨⟨rfl,(aq hg ht _)⟩,(iM hg ht (aq hg ht _) rfl hc2)⟩ ?_;cbv;obtain⟨l5,hl5,h_1⟩:=ah h_1;try dsimp only at h_1
    refine ANew.mk (d_I64 l5) (dlen (d_I64 l5)) (by rw[←hl5];exact ny hg ht (aq hg ht _) rfl) (by rw[←hl5];exact lh hg ht (aq hg ht _) rfl) ?_;cbv;try rw[hg] at h_1
    try rw[ht] at h_1
    refine⟨⟨(k1+1,(wrap .i64 (add v1 1)),l5),hc1_,hs1,h_1⟩,Wk.of [(0,some 145)] rfl rfl ?_ ?_,a7 hc1_⟩
    ·cbv;all_goals exact⟨⟨_,rfl,rfl⟩,⟨_,rfl,rfl⟩,⟨_,rfl,rfl⟩,⟨_,rfl,rfl⟩,⟨_,rfl,rfl⟩,trivial⟩
    cbv;all_goals exact⟨⟨_,rfl,rfl⟩,trivial⟩
   rw[ab hb2] at h_1;cbv;obtain⟨x1,hx1,h_1⟩:=ah h_1;try dsimp only at h_1
   refine ACall.mk _ _ rfl (hF _ _ _ (uv hg ht hx1)) (.inl rfl) (nb rfl) ?_;cbv;obtain⟨l2,hl2,h_1⟩:=ah h_1;try dsimp only at h_1
   refine ANew.mk (d_I64 l2) (dlen (d_I64 l2)) (by rw[←hl2];exact dN hg ht [x1]) (by rw[←hl2];exact df hg ht [x1]) ?_;cbv;obtain⟨hc1,h_1⟩:=aj h_1;refine AStep.mk ⟨⟨rfl,(aq hg ht _)⟩,(iM hg ht (aq hg ht _) rfl hc1)⟩ ?_;cbv;obtain⟨l3,hl3,h_1⟩:=ah h_1;try dsimp only at h_1
   refine ANew.mk (d_I64 l3) (dlen (d_I64 l3)) (by rw[←hl3];exact ny hg ht (aq hg ht _) rfl) (by rw[←hl3];exact lh hg ht (aq hg ht _) rfl) ?_;cbv;try rw[hg] at h_1
   try rw[ht] at h_1
   refine⟨⟨(k1+1,(wrap .i64 (add v1 1)),l3),hc1_,hs1,h_1⟩,Wk.of [(0,some 177)] rfl rfl ?_ ?_,a7 hc1_⟩
   ·cbv;all_goals exact⟨⟨_,rfl,rfl⟩,⟨_,rfl,rfl⟩,⟨_,rfl,rfl⟩,⟨_,rfl,rfl⟩,⟨_,rfl,rfl⟩,trivial⟩
   cbv;all_goals exact⟨⟨_,rfl,rfl⟩,trivial⟩
  have hb1:lt v1 (llen (r_S a0))=false:=gQ hg ht hi1 hc1_;rw[List.drop_of_length_le (Nat.le_of_not_lt hc1_)] at h_1;rw[cV] at h_1;try rw[←hg] at h_1
  try rw[←ht] at h_1
  try dsimp only at h_1
  rw[hb1];cbv;refine⟨w1,Wk.of [(0,some 0)] rfl rfl ?_ ?_,(Option.some.inj h_1).symm⟩
  ·cbv;all_goals exact⟨⟨_,rfl,rfl⟩,trivial⟩
  cbv;all_goals exact⟨⟨_,rfl,rfl⟩,trivial⟩
 rintro y1 hy1;replace hy1:=hy1.symm;subst hy1;try dsimp only[lr,lrL,lrp,a9] at h
 cbv;obtain rfl:=Option.some.inj h;exact ARet.mk ⟨rfl,(aq hg ht _)⟩ hX.symm
def ir93:J:=js [jq 2 (.box 0),jq 3 (.box 1),jm 4 (ki 0)] [2,3] (.seq (.reg (some [[],[0],[0,1],[],[3],[],[5],[3,4,5,6],[3,4,5,6,7],[3,4,5,6,7,8],[0,1,2,3,4,5,6,7,8,9],[0,1,2,3,4,5,6,7,8,9,10]]) [jf 5 1 3,jk 6 5,jb 7 .mul .i 6 (ki 1440),jf 8 0 2,jk 9 8,jf 10 0 3,jk 11 10,ja 12 6 9 11,jf 13 2 12,jk 14 13,jb 15 .add .i 7 14,jm 4 15] [4]) .ret)
def rv93:List RV:=[.t 4]
def dd (g:G) (t:TE) (a0:Network) (a1:Trip):Option Int:=
 gd (((0:Int)≤a1.Leg))<|
 gt a0.Legs (g.nat a1.Leg) fun x1=>
 some (g.wrap .i64 (g.add (g.wrap .i64 (g.mul a1.Day 1440)) x1.Start))
theorem g9 {g:G} {t:TE} {a0:Network} {a1:Trip} {r:Int} (hg:g=G.real) (ht:t=TE.real) (h:dd g t a0 a1=some r):Fn Tryz.prog 93 [.g (Network.rs t a0),.g (Trip.rs t a1)] (.c (.r (.v (.int .i64 r)))):=by
 obtain⟨X,hX⟩:=aE (.c (.r (.v (.int .i64 r))):X);rw[←hX];refine aB (rvs:=rv93) (j:=ir93) Tryz.func93 rfl (by kernel_rfl) (nb rfl) (by kernel_rfl) af ?_;intro g2 F hg2 hF;obtain rfl:g2=g:=hg2.unique.trans hg.symm;clear hg2;obtain⟨_⟩:=g2;obtain⟨_⟩:=t
 obtain⟨a0_Legs,a0_Off,a0_Change⟩:=a0;obtain⟨a1_Leg,a1_Day⟩:=a1;unfold dd at h;try dsimp only at h
 cbv;obtain⟨hc1,h⟩:=aj h;refine AStep.mk hc1 ?_;cbv;obtain⟨x1,hx1,h⟩:=aP h;obtain⟨x1_From,x1_To,x1_Start,x1_Takes,x1_Days,x1_Room⟩:=x1;try dsimp only at h
 refine AGet.mk _ (bm hg ht hx1) ?_;cbv;obtain rfl:=Option.some.inj h;exact ARet.mk trivial hX.symm
def ir94:J:=js [jq 2 (.box 0),jq 3 (.box 1),jm 4 (ki 0)] [2,3] (.seq (.reg (some [[],[],[0,1],[],[3],[],[5],[3,4,5,6],[3,4,5,6,7],[3,4,5,6,7,8],[0,1,2,3,4,5,6,7,8,9],[0,1,2,3,4,5,6,7,8,9,10]]) [jl 5 3 2,jl 6 2 3,jc 7 93 [5,6],jf 8 0 2,jk 9 8,jf 10 0 3,jk 11 10,ja 12 6 9 11,jf 13 3 12,jk 14 13,jb 15 .add .i 7 14,jm 4 15] [4]) .ret)
def rv94:List RV:=[.t 4]
def eE (g:G) (t:TE) (a0:Network) (a1:Trip):Option Int:=
 cl (dd g t a0 a1) fun x1=>
 gd (((0:Int)≤a1.Leg))<|
 gt a0.Legs (g.nat a1.Leg) fun x2=>
 some (g.wrap .i64 (g.add x1 x2.Takes))
theorem iN {g:G} {t:TE} {a0:Network} {a1:Trip} {r:Int} (hg:g=G.real) (ht:t=TE.real) (h:eE g t a0 a1=some r):Fn Tryz.prog 94 [.g (Network.rs t a0),.g (Trip.rs t a1)] (.c (.r (.v (.int .i64 r)))):=by
 obtain⟨X,hX⟩:=aE (.c (.r (.v (.int .i64 r))):X);rw[←hX];refine aB (rvs:=rv94) (j:=ir94) Tryz.func94 rfl (by kernel_rfl) (nb rfl) (by kernel_rfl) af ?_;intro g2 F hg2 hF;obtain rfl:g2=g:=hg2.unique.trans hg.symm;clear hg2;obtain⟨_⟩:=g2;obtain⟨_⟩:=t
 obtain⟨a0_Legs,a0_Off,a0_Change⟩:=a0;obtain⟨a1_Leg,a1_Day⟩:=a1;unfold eE at h;try dsimp only at h
 cbv;obtain⟨x1,hx1,h⟩:=ac h;try dsimp only at h
 refine ACall.mk _ _ rfl (hF _ _ _ (g9 hg ht hx1)) (.inl rfl) (nb rfl) ?_;cbv;obtain⟨hc1,h⟩:=aj h;refine AStep.mk hc1 ?_;cbv;obtain⟨x2,hx2,h⟩:=aP h;obtain⟨x2_From,x2_To,x2_Start,x2_Takes,x2_Days,x2_Room⟩:=x2;try dsimp only at h
 refine AGet.mk _ (bm hg ht hx2) ?_;cbv;obtain rfl:=Option.some.inj h;exact ARet.mk trivial hX.symm
def FW:J:=js [jm 4 kf] [0,1] (.seq (js [jm 5 (ki 0)] [0,1,5] (.bl 0 (.seq (js [jm 6 5,jm 7 0,jq 8 (.len false 7),jb 9 .lss .i 6 8] [0,1,5,9] (.cond 9 .skip (.exit 0))) (.seq (.block 1 (js [jm 12 0,jm 13 5,ja 14 1 12 13,jk 15 14,jm 16 1,jb 17 .eql .i 15 16] [0,1,5,17] (.cond 17 (js [jm 4 kt] [4] .ret) .skip))) (.reg none [jm 10 5,jb 11 .add .i 10 (ki 1),jm 5 11] [0,1,5]))))) (js [jm 4 kf] [4] .ret))
def FK:List RV:=[.t 4]
def eC (g:G) (t:TE) (a1:Int):List Int→LR Bool Unit
 |[]=>
  (LR.out ())
 |z1::ls1=>
  br (g.eq z1 a1)
  (
   (LR.ret true))
  (
   eC g t a1 ls1)
def pO (g:G) (t:TE) (a0:List Int) (a1:Int):Bool:=
 lP (eC g t a1 a0) fun o1=>lrp o1 fun y1=>
 false
theorem zV {g:G} {t:TE} {a0:List Int} {a1:Int} {r:Bool} (hg:g=G.real) (ht:t=TE.real) (h:pO g t a0 a1=r):Fn Tryz.prog 159 [.c (.s 1 (t.r_I64 a0)),.c (.v (.int .i64 a1))] (.c (.r (.v (.bool r)))):=by
 obtain⟨X,hX⟩:=aE (.c (.r (.v (.bool r))):X);rw[←hX];refine aB (rvs:=FK) (j:=FW) Tryz.func159 rfl (by kernel_rfl) (nb rfl) (by kernel_rfl) af ?_;intro g2 F hg2 hF;obtain rfl:g2=g:=hg2.unique.trans hg.symm;clear hg2;obtain⟨wrap,lt,_,eq,_,_,_,_,_,_,_,_,_,add,_,_,_,_,_,_,_,llen⟩:=g2;obtain⟨_,_,_,_,r_I64⟩:=t
 unfold pO at h;try dsimp only at h
 cbv;obtain⟨o1,ho1,h⟩:=ah h;try dsimp only at h
 try rw[hg] at ho1
 try rw[ht] at ho1
 refine ABL.mk {p:Nat×Int//p.1≤a0.length∧p.2=((p.1:Nat):Int)∧eC G.real TE.real a1 (List.drop p.1 a0)=o1} (fun⟨⟨k1,v1⟩,_⟩=>({sl:=[(0,.c (.r (.s 1 (r_I64 a0)))),(1,.c (.r (.v (.int .i64 a1)))),(5,.c (.r (.v (.int .i64 v1))))],tab:=[]}:St)) 0 (fun p=>a0.length-p.1.1) ⟨(0,0),Nat.zero_le _,rfl,ho1⟩ (Unit) (fun _=>({sl:=[],tab:=[]}:St)) 0 (fun y=>o1=LR.out y) ?_ ?_ ?_
 ·refine Wk.of [] rfl rfl ?_ ?_
  ·cbv;all_goals exact⟨⟨_,rfl,rfl⟩,⟨_,rfl,rfl⟩,⟨_,rfl,rfl⟩,trivial⟩
  cbv;all_goals exact trivial
 ·rintro⟨⟨k1,v1⟩,hk1,hi1,h_1⟩ hq1;have hm1:=(hq1.1 0 _ _ rfl);try dsimp only at hk1 hi1 h_1
  clear hq1;cbv
  by_cases hc1_:k1<a0.length
  ·have hb1:lt v1 (llen (r_I64 a0))=true:=gg hg ht hi1 hc1_;have hs1:=jB hg ht hi1 hc1_ hm1;obtain⟨z1,hz1⟩:=aW hc1_;rw[aD hz1] at h_1;rw[eC] at h_1;try rw[←hg] at h_1
   try rw[←ht] at h_1
   try dsimp only at h_1
   rw[hb1];cbv;refine AStep.mk (f8 hi1) ?_;cbv;refine AGet.mk _ (gm hg ht hi1 hz1) ?_;cbv
   cases hb2:(eq z1 a1)
   rotate_left
   ·rw[ab hb2] at h_1;cbv;subst h_1;try dsimp only[lr,lrL,lrp,a9] at h
    subst h;exact ARet.mk trivial hX.symm
   rw[aa hb2] at h_1;cbv;try rw[hg] at h_1
   try rw[ht] at h_1
   refine⟨⟨(k1+1,(wrap .i64 (add v1 1))),hc1_,hs1,h_1⟩,Wk.of [] rfl rfl ?_ ?_,a7 hc1_⟩
   ·cbv;all_goals exact⟨⟨_,rfl,rfl⟩,⟨_,rfl,rfl⟩,⟨_,rfl,rfl⟩,trivial⟩
   cbv;all_goals exact trivial
  have hb1:lt v1 (llen (r_I64 a0))=false:=fq hg ht hi1 hc1_;rw[List.drop_of_length_le (Nat.le_of_not_lt hc1_)] at h_1;rw[eC] at h_1;try rw[←hg] at h_1
  try rw[←ht] at h_1
  try dsimp only at h_1
  rw[hb1];cbv;refine⟨(),Wk.of [] rfl rfl ?_ ?_,h_1.symm⟩
  ·cbv;all_goals exact trivial
  cbv;all_goals exact trivial
 rintro _ hy1;replace hy1:=hy1.symm;subst hy1;try dsimp only[lr,lrL,lrp,a9] at h
 cbv;subst h;exact ARet.mk trivial hX.symm
def Fr:J:=js [jq 3 (.box 0),jm 6 kf] [1,2,3] (js [jm 7 1,jf 8 0 3,jk 9 8,jq 10 (.len false 9),jb 11 .sub .i 10 (ki 1),jc 12 98 [7,(ki 0),11],jm 13 12,ju 14 13 (.mv 2),ju 15 13 (.call 98 true [14,(ki 0),(ki 60)]),jq 16 (.pick 13 15 kf),jm 17 16,ju 18 17 (.fa 0 3),ju 19 17 (.ld false 1 18),ju 20 17 (.mv 1),ju 21 17 (.ia 6 19 20),ju 22 17 (.fa 4 21),ju 23 17 (.ld false 1 22),ju 24 17 (.mv 2),ju 25 17 (.bin .rem .i 24 (ki 7)),ju 26 17 (.bin .shr .i 23 25),ju 27 17 (.bin .and .i 26 (ki 1)),ju 28 17 (.bin .eql .i 27 (ki 1)),jq 29 (.pick 17 28 kf),jm 30 29,ju 31 30 (.fa 1 3),ju 32 30 (.ld false 1 31),ju 33 30 (.mv 2),ju 34 30 (.call 159 true [32,33]),ju 35 30 (.not 34),jq 36 (.pick 30 35 kf),jm 6 36] [6] .ret)
def F7:List RV:=[.t 6]
def gJ (g:G) (t:TE) (a0:Network) (a1:Int) (a2:Int):Option Bool:=
 lP (fF g t a1 0 (g.wrap .i64 (g.sub (g.llen (t.r_Leg a0.Legs)) 1))) fun x1=>
 br x1
 (
  lP (fF g t a2 0 60) fun x2=>
  br x2
  (
   gd (((0:Int)≤a1))<|
   gt a0.Legs (g.nat a1) fun x3=>
   gd (((0:Int)≤(g.rem a2 7)))<|
   br (g.eq (g.band .i64 (g.shr .i64 x3.Days (g.rem a2 7)) 1) 1)
   (
    lP (pO g t a0.Off a2) fun x4=>
    some (!x4))
   (
    some false))
  (
   some false))
 (
  some false)
theorem qE {g:G} {t:TE} {a0:Network} {a1:Int} {a2:Int} {r:Bool} (hg:g=G.real) (ht:t=TE.real) (h:gJ g t a0 a1 a2=some r):Fn Tryz.prog 151 [.g (Network.rs t a0),.c (.v (.int .i64 a1)),.c (.v (.int .i64 a2))] (.c (.r (.v (.bool r)))):=by
 obtain⟨X,hX⟩:=aE (.c (.r (.v (.bool r))):X);rw[←hX];refine aB (rvs:=F7) (j:=Fr) Tryz.func151 rfl (by kernel_rfl) (nb rfl) (by kernel_rfl) af ?_;intro g2 F hg2 hF;obtain rfl:g2=g:=hg2.unique.trans hg.symm;clear hg2;obtain⟨_,_,_,eq,_,rem,band,_,_,_,shr⟩:=g2;obtain⟨_⟩:=t
 obtain⟨a0_Legs,a0_Off,a0_Change⟩:=a0;unfold gJ at h;try dsimp only at h
 cbv;obtain⟨x1,hx1,h⟩:=ah h;try dsimp only at h
 refine ACall.mk _ _ rfl (hF _ _ _ (eK hg ht hx1)) (.inl rfl) (nb rfl) ?_;cbv
 cases hb1:x1
 ·rw[aa hb1] at h;cbv;iterate 2 try(rw[hb1];cbv)
  obtain rfl:=Option.some.inj h;exact ARet.mk trivial hX.symm
 rw[ab hb1] at h;cbv;try(rw[hb1];cbv)
 obtain⟨x2,hx2,h⟩:=ah h;try dsimp only at h
 refine ACall.mk _ _ rfl (hF _ _ _ (eK hg ht hx2)) (.inl rfl) (nb rfl) ?_;cbv;try(rw[hb1];cbv)
 cases hb2:x2
 ·rw[aa hb2] at h;cbv;iterate 11 try(rw[hb2];cbv)
  obtain rfl:=Option.some.inj h;exact ARet.mk trivial hX.symm
 rw[ab hb2] at h;cbv;iterate 3 try(rw[hb2];cbv)
 obtain⟨hc1,h⟩:=aj h;refine AStep.mk hc1 ?_;cbv;obtain⟨x3,hx3,h⟩:=aP h;obtain⟨x3_From,x3_To,x3_Start,x3_Takes,x3_Days,x3_Room⟩:=x3;try dsimp only at h
 refine AGet.mk _ (bm hg ht hx3) ?_;cbv;iterate 4 try(rw[hb2];cbv)
 refine AStep.mk (by decide) ?_;cbv;try(rw[hb2];cbv)
 obtain⟨hc2,h⟩:=aj h;refine AStep.mk hc2 ?_;cbv;iterate 3 try(rw[hb2];cbv)
 cases hb3:(eq (band .i64 (shr .i64 x3_Days (rem a2 7)) 1) 1)
 ·rw[aa hb3] at h;cbv;iterate 5 try(rw[hb3];cbv)
  obtain rfl:=Option.some.inj h;exact ARet.mk trivial hX.symm
 rw[ab hb3] at h;cbv;iterate 3 try(rw[hb3];cbv)
 obtain⟨x4,hx4,h⟩:=ah h;try dsimp only at h
 refine ACall.mk _ _ rfl (hF _ _ _ (zV hg ht hx4)) (.inl rfl) (nb rfl) ?_;cbv;iterate 2 try(rw[hb3];cbv)
 obtain rfl:=Option.some.inj h;exact ARet.mk trivial hX.symm
def Fk:J:=js [jq 3 (.box 0),jm 6 (ki 0)] [1,2,3] (.seq (js [jm 7 (ki 0)] [1,2,3,7] (.bl 0 (.seq (js [jm 8 7,jb 9 .leq .i 8 (ki 60)] [1,2,3,7,9] (.cond 9 .skip (.exit 0))) (.seq (.block 1 (js [jl 12 3 3,jm 13 1,jm 14 7,jc 15 151 [12,13,14],jm 16 15,ju 17 16 (.ld true 3 3),ju 18 16 (.mv 1),ju 19 16 (.mv 7),ju 20 16 (.bld [.r (.v (.int .i64 0)),.r (.v (.int .i64 0))] [(0,1,18),(1,1,19)]),ju 21 16 (.call 93 true [17,20]),ju 22 16 (.mv 2),ju 23 16 (.bin .geq .i 21 22),jq 24 (.pick 16 23 kf)] [1,2,3,7,24] (.cond 24 (js [jm 25 7,jm 6 25] [6] .ret) .skip))) (.reg none [jm 10 7,jb 11 .add .i 10 (ki 1),jm 7 11] [1,2,3,7]))))) (js [jq 6 (.mv (.k (V.i (-1))))] [6] .ret))
def FH:List RV:=[.t 6]
def cj (g:G) (t:TE) (a0:Network) (a1:Int) (a2:Int):Nat→Int→Option (LR Int Unit)
 |0,v1=>
  some (LR.out ())
 |n1+1,v1=>
  cl (gJ g t a0 a1 v1) fun x1=>
  br x1
  (
   cl (dd g t a0 (Trip.mk a1 v1)) fun x2=>
   br (g.le a2 x2)
   (
    some (LR.ret v1))
   (
    cj g t a0 a1 a2 n1 (g.wrap .i64 (g.add v1 1))))
  (
   cj g t a0 a1 a2 n1 (g.wrap .i64 (g.add v1 1)))
def fA (g:G) (t:TE) (a0:Network) (a1:Int) (a2:Int):Option Int:=
 cl (cj g t a0 a1 a2 (fh 0 60) 0) fun o1=>lr o1 fun y1=>
 some (-1)
theorem mH {g:G} {t:TE} {a0:Network} {a1:Int} {a2:Int} {r:Int} (hg:g=G.real) (ht:t=TE.real) (h:fA g t a0 a1 a2=some r):Fn Tryz.prog 121 [.g (Network.rs t a0),.c (.v (.int .i64 a1)),.c (.v (.int .i64 a2))] (.c (.r (.v (.int .i64 r)))):=by
 obtain⟨X,hX⟩:=aE (.c (.r (.v (.int .i64 r))):X);rw[←hX];refine aB (rvs:=FH) (j:=Fk) Tryz.func121 rfl (by kernel_rfl) (nb rfl) (by kernel_rfl) af ?_;intro g2 F hg2 hF;obtain rfl:g2=g:=hg2.unique.trans hg.symm;clear hg2;obtain⟨wrap,_,le,_,_,_,_,_,_,_,_,_,_,add⟩:=g2;obtain⟨_,_,r_Leg,_,r_I64⟩:=t
 obtain⟨a0_Legs,a0_Off,a0_Change⟩:=a0;unfold fA at h;try dsimp only at h
 cbv;obtain⟨o1,ho1,h⟩:=ac h;try dsimp only at h
 try rw[hg] at ho1
 try rw[ht] at ho1
 refine ABL.mk {p:Nat×Int//p.1=fh p.2 60∧0≤p.2∧cj G.real TE.real (Network.mk a0_Legs a0_Off a0_Change) a1 a2 p.1 p.2=some o1} (fun⟨⟨n1,v1⟩,_⟩=>({sl:=[(1,.c (.r (.v (.int .i64 a1)))),(2,.c (.r (.v (.int .i64 a2)))),(3,.c (.p 0 3 0 0)),(7,.c (.r (.v (.int .i64 v1))))],tab:=[(0,some (.foc 3 [] [.r (.s 6 (r_Leg a0_Legs)),.r (.s 1 (r_I64 a0_Off)),.r (.v (.int .i64 a0_Change))] []))]}:St)) 1 (fun p=>p.1.1) ⟨(fh 0 60,0),rfl,Int.le_refl _,ho1⟩ (Unit) (fun _=>({sl:=[],tab:=[]}:St)) 0 (fun y=>o1=LR.out y) ?_ ?_ ?_
 ·refine Wk.of [(0,some 0)] rfl rfl ?_ ?_
  ·cbv;all_goals exact⟨⟨_,rfl,rfl⟩,⟨_,rfl,rfl⟩,⟨_,rfl,rfl⟩,⟨_,rfl,rfl⟩,trivial⟩
  cbv;all_goals exact⟨⟨_,rfl,_,rfl,rfl,rfl,rfl,trivial⟩,trivial⟩
 ·rintro⟨⟨n1,v1⟩,hn1,hi1,h_1⟩ hq1;try dsimp only at hn1 hi1 h_1
  clear hq1;cbv;rcases n1 with _|n1
  ·have hb1:le v1 60=false:=oE hg hn1;rw[cj] at h_1;try rw[←hg] at h_1
   try rw[←ht] at h_1
   try dsimp only at h_1
   rw[hb1];cbv;refine⟨(),Wk.of [] rfl rfl ?_ ?_,(Option.some.inj h_1).symm⟩
   ·cbv;all_goals exact trivial
   cbv;all_goals exact trivial
  have hb1:le v1 60=true:=pX hg hn1;have hl1:=xi hn1;have hs1:=tR hg hn1 hi1 (by decide) (by decide);rw[cj] at h_1;try rw[←hg] at h_1
  try rw[←ht] at h_1
  try dsimp only at h_1
  rw[hb1];cbv;obtain⟨x1,hx1,h_1⟩:=ac h_1;try dsimp only at h_1
  refine ACall.mk _ _ rfl (hF _ _ _ (qE hg ht hx1)) (.inl rfl) (nb rfl) ?_;cbv
  cases hb2:x1
  ·rw[aa hb2] at h_1;cbv;iterate 7 try(rw[hb2];cbv)
   try rw[hg] at h_1
   try rw[ht] at h_1
   refine⟨⟨(n1,(wrap .i64 (add v1 1))),hs1.1,hs1.2,h_1⟩,Wk.of [(0,some 0)] rfl rfl ?_ ?_,Nat.lt_succ_self _⟩
   ·cbv;all_goals exact⟨⟨_,rfl,rfl⟩,⟨_,rfl,rfl⟩,⟨_,rfl,rfl⟩,⟨_,rfl,rfl⟩,trivial⟩
   cbv;all_goals exact⟨⟨_,rfl,_,rfl,rfl,rfl,rfl,trivial⟩,trivial⟩
  rw[ab hb2] at h_1;cbv;iterate 4 try(rw[hb2];cbv)
  obtain⟨x2,hx2,h_1⟩:=ac h_1;try dsimp only at h_1
  refine ACall.mk _ _ rfl (hF _ _ _ (g9 hg ht hx2)) (.inl rfl) (nb rfl) ?_;cbv;iterate 3 try(rw[hb2];cbv)
  cases hb3:(le a2 x2)
  rotate_left
  ·rw[ab hb3] at h_1;cbv;obtain rfl:=Option.some.inj h_1;try dsimp only[lr,lrL,lrp,a9] at h
   obtain rfl:=Option.some.inj h;exact ARet.mk trivial hX.symm
  rw[aa hb3] at h_1;cbv;try rw[hg] at h_1
  try rw[ht] at h_1
  refine⟨⟨(n1,(wrap .i64 (add v1 1))),hs1.1,hs1.2,h_1⟩,Wk.of [(0,some 0)] rfl rfl ?_ ?_,Nat.lt_succ_self _⟩
  ·cbv;all_goals exact⟨⟨_,rfl,rfl⟩,⟨_,rfl,rfl⟩,⟨_,rfl,rfl⟩,⟨_,rfl,rfl⟩,trivial⟩
  cbv;all_goals exact⟨⟨_,rfl,_,rfl,rfl,rfl,rfl,trivial⟩,trivial⟩
 rintro _ hy1;replace hy1:=hy1.symm;subst hy1;try dsimp only[lr,lrL,lrp,a9] at h
 cbv;obtain rfl:=Option.some.inj h;exact ARet.mk trivial hX.symm
def Ff:J:=js [jq 3 (.box 0),jm 6 (ki 0)] [1,2,3] (.seq (js [jm 7 2] [1,3,7] (.cond 7 (js [jm 8 1,jm 6 8] [6] .ret) .skip)) (js [jm 9 1,jf 10 2 3,jk 11 10,jb 12 .add .i 9 11,jm 6 12] [6] .ret))
def Gb:List RV:=[.t 6]
def fK (g:G) (t:TE) (a0:Network) (a1:Int) (a2:Bool):Int:=
 br a2
 (
  a1)
 (
  (g.wrap .i64 (g.add a1 a0.Change)))
theorem pu {g:G} {t:TE} {a0:Network} {a1:Int} {a2:Bool} {r:Int} (hg:g=G.real) (ht:t=TE.real) (h:fK g t a0 a1 a2=r):Fn Tryz.prog 122 [.g (Network.rs t a0),.c (.v (.int .i64 a1)),.c (.v (.bool a2))] (.c (.r (.v (.int .i64 r)))):=by
 obtain⟨X,hX⟩:=aE (.c (.r (.v (.int .i64 r))):X);rw[←hX];refine aB (rvs:=Gb) (j:=Ff) Tryz.func122 rfl (by kernel_rfl) (nb rfl) (by kernel_rfl) af ?_;intro g2 F hg2 hF;obtain rfl:g2=g:=hg2.unique.trans hg.symm;clear hg2;obtain⟨_⟩:=g2;obtain⟨_⟩:=t
 obtain⟨a0_Legs,a0_Off,a0_Change⟩:=a0;unfold fK at h;try dsimp only at h
 cbv
 cases hb1:a2
 rotate_left
 ·rw[ab hb1] at h;cbv;subst h;exact ARet.mk trivial hX.symm
 rw[aa hb1] at h;cbv;subst h;exact ARet.mk trivial hX.symm
def F9:J:=js [jq 2 (.mv (.k (.c (.n 1))))] [0] (js [jq 3 (.bsl 1 []),jm 4 0,jq 5 (.app 1 8 false 3 4),jm 2 5] [2] .ret)
def Ft:List RV:=[.t 2]
def nl (g:G) (t:TE) (a0:List Int):Option (List Int):=
 lP ([]) fun(l1:List Int)=>
 gd (((l1.length+a0.length)*8≤70368744177664))<|
 lP (l1++a0) fun(l2:List Int)=>
 some l2
theorem wW {g:G} {t:TE} {a0:List Int} {r:List Int} (hg:g=G.real) (ht:t=TE.real) (h:nl g t a0=some r):Fn Tryz.prog 150 [.c (.s 1 (t.r_I64 a0))] (.c (.o 1 (t.d_I64 r))):=by
 obtain⟨X,hX⟩:=aE (.c (.o 1 (t.d_I64 r)):X);rw[←hX];refine aB (rvs:=Ft) (j:=F9) Tryz.func150 rfl (by kernel_rfl) (nb rfl) (by kernel_rfl) af ?_;intro g2 F hg2 hF;obtain rfl:g2=g:=hg2.unique.trans hg.symm;clear hg2;obtain⟨_,_,_,_,_,_,_,_,_,_,_,_,_,_,_,_,_,_,_,_,_,_,_,_,dlen⟩:=g2;obtain⟨_,_,_,_,_,d_I64⟩:=t
 unfold nl at h;try dsimp only at h
 cbv;obtain⟨l1,hl1,h⟩:=ah h;try dsimp only at h
 refine ANew.mk (d_I64 l1) (dlen (d_I64 l1)) (by rw[←hl1];exact dN hg ht []) (by rw[←hl1];exact df hg ht []) ?_;cbv;obtain⟨hc1,h⟩:=aj h;refine AStep.mk (iM hg ht (aq hg ht _) (wI hg ht _) hc1) ?_;cbv;obtain⟨l2,hl2,h⟩:=ah h;try dsimp only at h
 refine ANew.mk (d_I64 l2) (dlen (d_I64 l2)) (by rw[←hl2];exact ny hg ht (aq hg ht _) (wI hg ht _)) (by rw[←hl2];exact lh hg ht (aq hg ht _) (wI hg ht _)) ?_;cbv;obtain rfl:=Option.some.inj h;exact ARet.mk ⟨rfl,(aq hg ht _)⟩ hX.symm
def EZ:J:=js [jq 4 (.box 0),jq 8 (.mv (.k (.c (.n 1))))] [1,2,3,4] (js [jm 15 2,jc 16 150 [15],jm 9 16] [1,2,3,4,9] (.seq (js [jm 10 (ki 0)] [1,2,3,4,9,10] (.bl 0 (.seq (js [jm 17 10,jf 18 0 4,jk 19 18,jq 20 (.len false 19),jb 21 .lss .i 17 20] [1,2,3,4,9,10,21] (.cond 21 .skip (.exit 0))) (.seq (.block 1 (js [jm 24 1,jf 25 0 4,jk 26 25,jm 27 10,ja 28 6 26 27,jf 29 0 28,jk 30 29,jc 31 89 [24,30],jm 11 31] [1,2,3,4,9,10,11] (js [jm 32 1,jf 33 0 4,jk 34 33,jm 35 10,ja 36 6 34 35,jf 37 1 36,jk 38 37,jc 39 89 [32,38],jm 12 39] [1,2,3,4,9,10,11,12] (.seq (js [jm 40 2,jm 41 11,ja 42 1 40 41,jk 43 42,jb 44 .lss .i 43 (ki 0)] [1,2,3,4,9,10,11,12,44] (.cond 44 (.exit 1) .skip)) (.seq (.reg (some [[],[],[],[],[],[3,4],[3,4,5],[],[],[7,8],[2,3,4,5,6,7,8,9],[0,1,2,3,4,5,6,7,8,9,10],[0,1,2,3,4,5,6,7,8,9,10,11]]) [jl 45 3 4,jm 46 10,jl 47 3 4,jm 48 2,jm 49 11,ja 50 1 48 49,jk 51 50,jm 52 11,jm 53 3,jb 54 .eql .i 52 53,jc 55 122 [47,51,54],jc 56 121 [45,46,55],jm 13 56] [1,2,3,4,9,10,12,13]) (.seq (js [jm 57 13,jb 58 .lss .i 57 (ki 0)] [1,2,3,4,9,10,12,13,58] (.cond 58 (.exit 1) .skip)) (js [jl 59 3 4,jm 60 10,jm 61 13,jq 62 (.bld [.r (.v (.int .i64 0)),.r (.v (.int .i64 0))] [(0,1,60),(1,1,61)]),jc 63 94 [59,62],jm 14 63] [1,2,3,4,9,10,12,14] (js [jm 64 9,jm 65 12,ja 66 1 64 65,jk 67 66,jb 68 .lss .i 67 (ki 0),jm 69 68,jv 70 69 (.mv 14),jv 71 69 (.mv 9),jv 72 69 (.mv 12),jv 73 69 (.ia 1 71 72),jv 74 69 (.ld false 1 73),jv 75 69 (.bin .lss .i 70 74),jq 76 (.pick 69 kt 75)] [1,2,3,4,9,10,12,14,76] (.cond 76 (.reg none [jm 77 9,jm 78 12,jm 79 14,ja 80 1 77 78,jp (.st 1 80 79)] [1,2,3,4,9,10]) .skip))))))))) (.reg none [jm 22 10,jb 23 .add .i 22 (ki 1),jm 10 23] [1,2,3,4,9,10]))))) (js [jm 81 9,jm 8 81] [8] .ret)))
def Fp:List RV:=[.t 8]
def bJ (g:G) (t:TE) (a0:Network) (a1:List ByteArray) (a2:List Int) (a3:Int):List Leg→Int→List Int→Option (List Int)
 |[],v1,w1=>
  some w1
 |z1::ls1,v1,w1=>
  lP (cJ g t a1 z1.From) fun x2=>
  lP (cJ g t a1 z1.To) fun x3=>
  gd (((0:Int)≤x2))<|
  gt a2 (g.nat x2) fun x4=>
  br (g.lt x4 0)
  (
   bJ g t a0 a1 a2 a3 ls1 (g.wrap .i64 (g.add v1 1)) w1)
  (
   gd (((0:Int)≤x2))<|
   lP (fK g t a0 x4 (g.eq x2 a3)) fun x5=>
   cl (fA g t a0 v1 x5) fun x6=>
   br (g.lt x6 0)
   (
    bJ g t a0 a1 a2 a3 ls1 (g.wrap .i64 (g.add v1 1)) w1)
   (
    cl (eE g t a0 (Trip.mk v1 x6)) fun x7=>
    gd (((0:Int)≤x3∧x3<(((g.dlen (t.d_I64 w1)):Nat):Int)))<|
    gt w1 (g.nat x3) fun x8=>
    br (g.lt x8 0)
    (
     gd (((0:Int)≤x3∧x3<(((g.dlen (t.d_I64 w1)):Nat):Int)))<|
     lP (List.set w1 (g.nat x3) x7) fun(l1:List Int)=>
     bJ g t a0 a1 a2 a3 ls1 (g.wrap .i64 (g.add v1 1)) l1)
    (
     gd (((0:Int)≤x3∧x3<(((g.dlen (t.d_I64 w1)):Nat):Int)))<|
     br (g.lt x7 x8)
     (
      gd (((0:Int)≤x3∧x3<(((g.dlen (t.d_I64 w1)):Nat):Int)))<|
      lP (List.set w1 (g.nat x3) x7) fun(l2:List Int)=>
      bJ g t a0 a1 a2 a3 ls1 (g.wrap .i64 (g.add v1 1)) l2)
     (
      bJ g t a0 a1 a2 a3 ls1 (g.wrap .i64 (g.add v1 1)) w1))))
def lG (g:G) (t:TE) (a0:Network) (a1:List ByteArray) (a2:List Int) (a3:Int):Option (List Int):=
 cl (nl g t a2) fun x1=>
 cl (bJ g t a0 a1 a2 a3 a0.Legs 0 x1) fun y1=>
 some y1
theorem uL {g:G} {t:TE} {a0:Network} {a1:List ByteArray} {a2:List Int} {a3:Int} {r:List Int} (hg:g=G.real) (ht:t=TE.real) (h:lG g t a0 a1 a2 a3=some r):Fn Tryz.prog 120 [.g (Network.rs t a0),.c (.s 1 (t.r_S a1)),.c (.s 1 (t.r_I64 a2)),.c (.v (.int .i64 a3))] (.c (.o 1 (t.d_I64 r))):=by
 obtain⟨X,hX⟩:=aE (.c (.o 1 (t.d_I64 r)):X);rw[←hX];refine aB (rvs:=Fp) (j:=EZ) Tryz.func120 rfl (by kernel_rfl) (nb rfl) (by kernel_rfl) af ?_;intro g2 F hg2 hF;obtain rfl:g2=g:=hg2.unique.trans hg.symm;clear hg2;obtain⟨wrap,lt,_,_,_,_,_,_,_,_,_,_,_,add,_,_,_,_,_,_,_,llen,_,_,dlen⟩:=g2;obtain⟨_,_,r_Leg,_,r_I64,d_I64,_,_,r_S⟩:=t
 obtain⟨a0_Legs,a0_Off,a0_Change⟩:=a0;unfold lG at h;try dsimp only at h
 cbv;obtain⟨x1,hx1,h⟩:=ac h;try dsimp only at h
 refine ACall.mk _ _ rfl (hF _ _ _ (wW hg ht hx1)) (.inl rfl) (nb rfl) ?_;cbv;obtain⟨o1,ho1,h⟩:=ac h;try dsimp only at h
 try rw[hg] at ho1
 try rw[ht] at ho1
 refine ABL.mk {p:Nat×Int×List Int//p.1≤a0_Legs.length∧p.2.1=((p.1:Nat):Int)∧bJ G.real TE.real (Network.mk a0_Legs a0_Off a0_Change) a1 a2 a3 (List.drop p.1 a0_Legs) p.2.1 p.2.2=some o1} (fun⟨⟨k1,v1,w1⟩,_⟩=>({sl:=[(1,.c (.r (.s 1 (r_S a1)))),(2,.c (.r (.s 1 (r_I64 a2)))),(3,.c (.r (.v (.int .i64 a3)))),(4,.c (.p 0 3 0 0)),(9,.c (.f 1 1 0 (dlen (d_I64 w1)))),(10,.c (.r (.v (.int .i64 v1))))],tab:=[(0,some (.foc 3 [] [.r (.s 6 (r_Leg a0_Legs)),.r (.s 1 (r_I64 a0_Off)),.r (.v (.int .i64 a0_Change))] [])),(1,some (.arr 1 (d_I64 w1)))]}:St)) 2 (fun p=>a0_Legs.length-p.1.1) ⟨(0,0,x1),Nat.zero_le _,rfl,ho1⟩ (List Int) (fun y1=>({sl:=[(9,.c (.f 0 1 0 (dlen (d_I64 y1))))],tab:=[(0,some (.arr 1 (d_I64 y1)))]}:St)) 1 (fun y=>o1=y) ?_ ?_ ?_
 ·refine Wk.of [(0,some 0),(1,some 48)] rfl rfl ?_ ?_
  ·cbv;all_goals exact⟨⟨_,rfl,rfl⟩,⟨_,rfl,rfl⟩,⟨_,rfl,rfl⟩,⟨_,rfl,rfl⟩,⟨_,rfl,rfl⟩,⟨_,rfl,rfl⟩,trivial⟩
  cbv;all_goals exact⟨⟨_,rfl,_,rfl,rfl,rfl,rfl,trivial⟩,⟨_,rfl,rfl⟩,trivial⟩
 ·rintro⟨⟨k1,v1,w1⟩,hk1,hi1,h_1⟩ hq1;have hm1:=(hq1.2.2.1 0 _ _ _ _ 0 _ _ rfl rfl);try dsimp only at hk1 hi1 h_1
  clear hq1;cbv
  by_cases hc1_:k1<a0_Legs.length
  ·have hb1:lt v1 (llen (r_Leg a0_Legs))=true:=ee hg ht hi1 hc1_;have hs1:=gB hg ht hi1 hc1_ hm1;obtain⟨z1,hz1⟩:=aW hc1_;rw[aD hz1] at h_1;rw[bJ] at h_1;obtain⟨z1_From,z1_To,z1_Start,z1_Takes,z1_Days,z1_Room⟩:=z1;try rw[←hg] at h_1
   try rw[←ht] at h_1
   try dsimp only at h_1
   rw[hb1];cbv;refine AStep.mk (f8 hi1) ?_;cbv;refine AGet.mk _ (eD hg ht hi1 hz1) ?_;cbv;obtain⟨x2,hx2,h_1⟩:=ah h_1;try dsimp only at h_1
   refine ACall.mk _ _ rfl (hF _ _ _ (dc hg ht hx2)) (.inl rfl) (nb rfl) ?_;cbv;refine AStep.mk (f8 hi1) ?_;cbv;refine AGet.mk _ (eD hg ht hi1 hz1) ?_;cbv;obtain⟨x3,hx3,h_1⟩:=ah h_1;try dsimp only at h_1
   refine ACall.mk _ _ rfl (hF _ _ _ (dc hg ht hx3)) (.inl rfl) (nb rfl) ?_;cbv;obtain⟨hc1,h_1⟩:=aj h_1;refine AStep.mk hc1 ?_;cbv;obtain⟨x4,hx4,h_1⟩:=aP h_1;try dsimp only at h_1
   refine AGet.mk _ (fM hg ht hx4) ?_;cbv
   cases hb2:(lt x4 0)
   rotate_left
   ·rw[ab hb2] at h_1;cbv;try rw[hg] at h_1
    try rw[ht] at h_1
    refine⟨⟨(k1+1,(wrap .i64 (add v1 1)),w1),hc1_,hs1,h_1⟩,Wk.of [(0,some 0),(1,some 1)] rfl rfl ?_ ?_,a7 hc1_⟩
    ·cbv;all_goals exact⟨⟨_,rfl,rfl⟩,⟨_,rfl,rfl⟩,⟨_,rfl,rfl⟩,⟨_,rfl,rfl⟩,⟨_,rfl,rfl⟩,⟨_,rfl,rfl⟩,trivial⟩
    cbv;all_goals exact⟨⟨_,rfl,_,rfl,rfl,rfl,rfl,trivial⟩,⟨_,rfl,rfl⟩,trivial⟩
   rw[aa hb2] at h_1;cbv;obtain⟨hc2,h_1⟩:=aj h_1;refine AStep.mk hc2 ?_;cbv;refine AGet.mk _ (fM hg ht hx4) ?_;cbv;obtain⟨x5,hx5,h_1⟩:=ah h_1;try dsimp only at h_1
   refine ACall.mk _ _ rfl (hF _ _ _ (pu hg ht hx5)) (.inl rfl) (nb rfl) ?_;cbv;obtain⟨x6,hx6,h_1⟩:=ac h_1;try dsimp only at h_1
   refine ACall.mk _ _ rfl (hF _ _ _ (mH hg ht hx6)) (.inl rfl) (nb rfl) ?_;cbv
   cases hb3:(lt x6 0)
   rotate_left
   ·rw[ab hb3] at h_1;cbv;try rw[hg] at h_1
    try rw[ht] at h_1
    refine⟨⟨(k1+1,(wrap .i64 (add v1 1)),w1),hc1_,hs1,h_1⟩,Wk.of [(0,some 0),(1,some 1)] rfl rfl ?_ ?_,a7 hc1_⟩
    ·cbv;all_goals exact⟨⟨_,rfl,rfl⟩,⟨_,rfl,rfl⟩,⟨_,rfl,rfl⟩,⟨_,rfl,rfl⟩,⟨_,rfl,rfl⟩,⟨_,rfl,rfl⟩,trivial⟩
    cbv;all_goals exact⟨⟨_,rfl,_,rfl,rfl,rfl,rfl,trivial⟩,⟨_,rfl,rfl⟩,trivial⟩
   rw[aa hb3] at h_1;cbv;obtain⟨x7,hx7,h_1⟩:=ac h_1;try dsimp only at h_1
   refine ACall.mk _ _ rfl (hF _ _ _ (iN hg ht hx7)) (.inl rfl) (nb rfl) ?_;cbv;obtain⟨hc3,h_1⟩:=aj h_1;refine AStep.mk hc3 ?_;cbv;obtain⟨x8,hx8,h_1⟩:=aP h_1;try dsimp only at h_1
   refine AGet.mk _ (bt hg ht hx8) ?_;cbv
   cases hb4:(lt x8 0)
   rotate_left
   ·rw[ab hb4] at h_1;cbv;iterate 6 try(rw[hb4];cbv)
    obtain⟨hc4,h_1⟩:=aj h_1;refine AStep.mk hc4 ?_;cbv;refine AGet.mk _ (bt hg ht hx8) ?_;cbv;obtain⟨l1,hl1,h_1⟩:=ah h_1;try dsimp only at h_1
    refine ANew.mk (d_I64 l1) _ (by rw[←hl1];exact kV hg ht _ _ x7) rfl ?_;have hnl1:(dlen (d_I64 w1))=(d_I64 l1).length:=(by rw[←hl1,jG ht];exact(aq hg ht _));cbv;try rw[hg] at h_1
    try rw[ht] at h_1
    refine⟨⟨(k1+1,(wrap .i64 (add v1 1)),l1),hc1_,hs1,h_1⟩,Wk.of [(0,some 0),(1,some 1)] rfl rfl ?_ ?_,a7 hc1_⟩
    ·cbv;all_goals try rw[show(dlen (d_I64 w1))=(dlen (d_I64 l1)) from(hnl1).trans (aq hg ht _).symm]
     all_goals exact⟨⟨_,rfl,rfl⟩,⟨_,rfl,rfl⟩,⟨_,rfl,rfl⟩,⟨_,rfl,rfl⟩,⟨_,rfl,rfl⟩,⟨_,rfl,rfl⟩,trivial⟩
    cbv;all_goals try rw[show(dlen (d_I64 w1))=(dlen (d_I64 l1)) from(hnl1).trans (aq hg ht _).symm]
    all_goals exact⟨⟨_,rfl,_,rfl,rfl,rfl,rfl,trivial⟩,⟨_,rfl,rfl⟩,trivial⟩
   rw[aa hb4] at h_1;cbv;iterate 3 try(rw[hb4];cbv)
   obtain⟨hc5,h_1⟩:=aj h_1;refine AStep.mk hc5 ?_;cbv;try(rw[hb4];cbv)
   refine AGet.mk _ (bt hg ht hx8) ?_;cbv;iterate 2 try(rw[hb4];cbv)
   cases hb5:(lt x7 x8)
   ·rw[aa hb5] at h_1;cbv;try rw[hg] at h_1
    try rw[ht] at h_1
    refine⟨⟨(k1+1,(wrap .i64 (add v1 1)),w1),hc1_,hs1,h_1⟩,Wk.of [(0,some 0),(1,some 1)] rfl rfl ?_ ?_,a7 hc1_⟩
    ·cbv;all_goals exact⟨⟨_,rfl,rfl⟩,⟨_,rfl,rfl⟩,⟨_,rfl,rfl⟩,⟨_,rfl,rfl⟩,⟨_,rfl,rfl⟩,⟨_,rfl,rfl⟩,trivial⟩
    cbv;all_goals exact⟨⟨_,rfl,_,rfl,rfl,rfl,rfl,trivial⟩,⟨_,rfl,rfl⟩,trivial⟩
   rw[ab hb5] at h_1;cbv;obtain⟨hc6,h_1⟩:=aj h_1;refine AStep.mk hc6 ?_;cbv;refine AGet.mk _ (bt hg ht hx8) ?_;cbv;obtain⟨l2,hl2,h_1⟩:=ah h_1;try dsimp only at h_1
   refine ANew.mk (d_I64 l2) _ (by rw[←hl2];exact kV hg ht _ _ x7) rfl ?_;have hnl2:(dlen (d_I64 w1))=(d_I64 l2).length:=(by rw[←hl2,jG ht];exact(aq hg ht _));cbv;try rw[hg] at h_1
   try rw[ht] at h_1
   refine⟨⟨(k1+1,(wrap .i64 (add v1 1)),l2),hc1_,hs1,h_1⟩,Wk.of [(0,some 0),(1,some 1)] rfl rfl ?_ ?_,a7 hc1_⟩
   ·cbv;all_goals try rw[show(dlen (d_I64 w1))=(dlen (d_I64 l2)) from(hnl2).trans (aq hg ht _).symm]
    all_goals exact⟨⟨_,rfl,rfl⟩,⟨_,rfl,rfl⟩,⟨_,rfl,rfl⟩,⟨_,rfl,rfl⟩,⟨_,rfl,rfl⟩,⟨_,rfl,rfl⟩,trivial⟩
   cbv;all_goals try rw[show(dlen (d_I64 w1))=(dlen (d_I64 l2)) from(hnl2).trans (aq hg ht _).symm]
   all_goals exact⟨⟨_,rfl,_,rfl,rfl,rfl,rfl,trivial⟩,⟨_,rfl,rfl⟩,trivial⟩
  have hb1:lt v1 (llen (r_Leg a0_Legs))=false:=dJ hg ht hi1 hc1_;rw[List.drop_of_length_le (Nat.le_of_not_lt hc1_)] at h_1;rw[bJ] at h_1;try rw[←hg] at h_1
  try rw[←ht] at h_1
  try dsimp only at h_1
  rw[hb1];cbv;refine⟨w1,Wk.of [(0,some 1)] rfl rfl ?_ ?_,(Option.some.inj h_1).symm⟩
  ·cbv;all_goals exact⟨⟨_,rfl,rfl⟩,trivial⟩
  cbv;all_goals exact⟨⟨_,rfl,rfl⟩,trivial⟩
 rintro y1 hy1;replace hy1:=hy1.symm;subst hy1;try dsimp only[lr,lrL,lrp,a9] at h
 cbv;obtain rfl:=Option.some.inj h;exact ARet.mk ⟨rfl,(aq hg ht _)⟩ hX.symm
def ir90:J:=js [jq 4 (.box 0),jq 8 (.mv (.k (.c (.n 1))))] [1,2,3,4] (js [jl 13 3 4,jc 14 87 [13],jm 9 14] [1,2,3,4,9] (js [jm 15 9,jm 16 1,jc 17 89 [15,16],jm 10 17] [2,3,4,9,10] (.seq (js [jl 18 3 4,jc 19 95 [18],jq 20 (.not 19),jm 21 20,jv 22 21 (.mv 10),jv 23 21 (.bin .lss .i 22 (ki 0)),jq 24 (.pick 21 kt 23),jm 25 24,jv 26 25 (.mv 2),jv 27 25 (.bin .gtr .i 26 (ki 100000)),jq 28 (.pick 25 kt 27),jm 29 28,jv 30 29 (.mv 3),jv 31 29 (.bin .lss .i 30 (ki 0)),jq 32 (.pick 29 kt 31)] [2,3,4,9,10,32] (.cond 32 (js [jq 33 (.bsl 1 []),jm 8 33] [8] .ret) .skip)) (js [jm 34 9,jm 35 10,jm 36 2,jc 37 119 [34,35,36],jm 11 37] [3,4,9,10,11] (.seq (js [jm 12 (ki 0)] [3,4,9,10,11,12] (.bl 0 (.seq (js [jm 38 12,jm 39 3,jb 40 .lss .i 38 39,jm 41 40,ju 42 41 (.mv 12),ju 43 41 (.mv 9),ju 44 41 (.len false 43),ju 45 41 (.bin .lss .i 42 44),jq 46 (.pick 41 45 kf)] [3,4,9,10,11,12,46] (.cond 46 .skip (.exit 0))) (.seq (.block 1 (.reg none [jl 49 3 4,jm 50 9,jm 51 11,jm 52 10,jc 53 120 [49,50,51,52],jm 11 53] [3,4,9,10,11,12])) (.reg none [jm 47 12,jb 48 .add .i 47 (ki 1),jm 12 48] [3,4,9,10,11,12]))))) (js [jm 54 11,jm 8 54] [8] .ret))))))
def rv90:List RV:=[.t 8]
def bD (g:G) (t:TE) (a0:Network) (x1:List ByteArray) (x2:Int):Nat→Int→List Int→Option (List Int)
 |0,v1,w1=>
  some w1
 |n1+1,v1,w1=>
  br (g.lt v1 (g.int (g.dlen (t.d_S x1))))
  (
   cl (lG g t a0 x1 w1 x2) fun x5=>
   bD g t a0 x1 x2 n1 (g.wrap .i64 (g.add v1 1)) x5)
  (
   some w1)
def aZ (g:G) (t:TE) (a0:Network) (a1:ByteArray) (a2:Int) (a3:Int):Option (List Int):=
 cl (dG g t a0) fun x1=>
 lP (cJ g t x1 a1) fun x2=>
 cl (cX g t a0) fun x3=>
 br x3
 (
  br (g.lt x2 0)
  (
   lP ([]) fun(l1:List Int)=>
   some l1)
  (
   br (g.lt 100000 a2)
   (
    lP ([]) fun(l2:List Int)=>
    some l2)
   (
    br (g.lt a3 0)
    (
     lP ([]) fun(l3:List Int)=>
     some l3)
    (
     cl (jI g t x1 x2 a2) fun x4=>
     gd ((a3≤9223372036854775807))<|
     cl (bD g t a0 x1 x2 (ap 0 a3) 0 x4) fun y1=>
     some y1))))
 (
  lP ([]) fun(l4:List Int)=>
  some l4)
theorem gD {g:G} {t:TE} {a0:Network} {a1:ByteArray} {a2:Int} {a3:Int} {r:List Int} (hg:g=G.real) (ht:t=TE.real) (h:aZ g t a0 a1 a2 a3=some r):Fn Tryz.prog 90 [.g (Network.rs t a0),.c (.v (.string a1)),.c (.v (.int .i64 a2)),.c (.v (.int .i64 a3))] (.c (.o 1 (t.d_I64 r))):=by
 obtain⟨X,hX⟩:=aE (.c (.o 1 (t.d_I64 r)):X);rw[←hX];refine aB (rvs:=rv90) (j:=ir90) Tryz.func90 rfl (by kernel_rfl) (nb rfl) (by kernel_rfl) af ?_;intro g2 F hg2 hF;obtain rfl:g2=g:=hg2.unique.trans hg.symm;clear hg2;obtain⟨wrap,lt,_,_,_,_,_,_,_,_,_,_,int,add,_,_,_,_,_,_,_,_,_,_,dlen,_,_,_,rd⟩:=g2;obtain⟨_,_,r_Leg,_,r_I64,d_I64,_,_,r_S,d_S⟩:=t
 obtain⟨a0_Legs,a0_Off,a0_Change⟩:=a0;have hfr_I64:∀l,fY (d_I64 l)=true:=Ab ht;unfold aZ at h;try dsimp only at h
 cbv;obtain⟨x1,hx1,h⟩:=ac h;try dsimp only at h
 refine ACall.mk _ _ rfl (hF _ _ _ (eU hg ht hx1)) (.inl rfl) (nb rfl) ?_;cbv;refine AStep.mk (en ht (al hg ht _)) ?_;cbv;obtain⟨x2,hx2,h⟩:=ah h;try dsimp only at h
 refine ACall.mk _ _ (by rw[show rd (d_S x1) 0 (dlen (d_S x1))=r_S x1 from gi hg ht (al hg ht _)];try rfl) (hF _ _ _ (dc hg ht hx2)) (.inr rfl) (nb rfl) ?_
 cbv;obtain⟨x3,hx3,h⟩:=ac h;try dsimp only at h
 refine ACall.mk _ _ rfl (hF _ _ _ (gI hg ht hx3)) (.inl rfl) (nb rfl) ?_;cbv
 cases hb1:x3
 ·rw[aa hb1] at h;cbv;iterate 2 try(rw[hb1];cbv)
  obtain⟨l4,hl4,h⟩:=ah h;try dsimp only at h
  refine ANew.mk (d_I64 l4) (dlen (d_I64 l4)) (by rw[←hl4];exact dN hg ht []) (by rw[←hl4];exact df hg ht []) ?_;cbv;obtain rfl:=Option.some.inj h;exact ARet.mk ⟨rfl,(aq hg ht _)⟩ hX.symm
 rw[ab hb1] at h;cbv;iterate 2 try(rw[hb1];cbv)
 cases hb2:(lt x2 0)
 rotate_left
 ·rw[ab hb2] at h;cbv;iterate 2 try(rw[hb2];cbv)
  obtain⟨l1,hl1,h⟩:=ah h;try dsimp only at h
  refine ANew.mk (d_I64 l1) (dlen (d_I64 l1)) (by rw[←hl1];exact dN hg ht []) (by rw[←hl1];exact df hg ht []) ?_;cbv;obtain rfl:=Option.some.inj h;exact ARet.mk ⟨rfl,(aq hg ht _)⟩ hX.symm
 rw[aa hb2] at h;cbv;iterate 2 try(rw[hb2];cbv)
 cases hb3:(lt 100000 a2)
 rotate_left
 ·rw[ab hb3] at h;cbv;iterate 2 try(rw[hb3];cbv)
  obtain⟨l2,hl2,h⟩:=ah h;try dsimp only at h
  refine ANew.mk (d_I64 l2) (dlen (d_I64 l2)) (by rw[←hl2];exact dN hg ht []) (by rw[←hl2];exact df hg ht []) ?_;cbv;obtain rfl:=Option.some.inj h;exact ARet.mk ⟨rfl,(aq hg ht _)⟩ hX.symm
 rw[aa hb3] at h;cbv;iterate 2 try(rw[hb3];cbv)
 cases hb4:(lt a3 0)
 rotate_left
 ·rw[ab hb4] at h;cbv;obtain⟨l3,hl3,h⟩:=ah h;try dsimp only at h
  refine ANew.mk (d_I64 l3) (dlen (d_I64 l3)) (by rw[←hl3];exact dN hg ht []) (by rw[←hl3];exact df hg ht []) ?_;cbv;obtain rfl:=Option.some.inj h;exact ARet.mk ⟨rfl,(aq hg ht _)⟩ hX.symm
 rw[aa hb4] at h;cbv;refine AStep.mk (en ht (al hg ht _)) ?_;cbv;obtain⟨x4,hx4,h⟩:=ac h;try dsimp only at h
 refine ACall.mk _ _ (by rw[show rd (d_S x1) 0 (dlen (d_S x1))=r_S x1 from gi hg ht (al hg ht _)];try rfl) (hF _ _ _ (uG hg ht hx4)) (.inr (by simp only[Go.Vs.X.fresh,Go.Vs.X.freshs,kg,fD,Bool.and_self,hfr_I64])) (nb rfl) ?_
 cbv;obtain⟨hB1,h⟩:=aj h;obtain⟨o1,ho1,h⟩:=ac h;try dsimp only at h
 try rw[hg] at ho1
 try rw[ht] at ho1
 refine ABL.mk {p:Nat×Int×List Int//p.1=ap p.2.1 a3∧0≤p.2.1∧bD G.real TE.real (Network.mk a0_Legs a0_Off a0_Change) x1 x2 p.1 p.2.1 p.2.2=some o1} (fun⟨⟨n1,v1,w1⟩,_⟩=>({sl:=[(3,.c (.r (.v (.int .i64 a3)))),(4,.c (.p 0 3 0 0)),(9,.c (.f 1 1 0 (dlen (d_S x1)))),(10,.c (.r (.v (.int .i64 x2)))),(11,.c (.f 2 1 0 (dlen (d_I64 w1)))),(12,.c (.r (.v (.int .i64 v1))))],tab:=[(0,some (.foc 3 [] [.r (.s 6 (r_Leg a0_Legs)),.r (.s 1 (r_I64 a0_Off)),.r (.v (.int .i64 a0_Change))] [])),(1,some (.arr 1 (d_S x1))),(2,some (.arr 1 (d_I64 w1)))]}:St)) 3 (fun p=>p.1.1) ⟨(ap 0 a3,0,x4),rfl,Int.le_refl _,ho1⟩ (List Int) (fun y1=>({sl:=[(11,.c (.f 0 1 0 (dlen (d_I64 y1))))],tab:=[(0,some (.arr 1 (d_I64 y1)))]}:St)) 1 (fun y=>o1=y) ?_ ?_ ?_
 ·refine Wk.of [(0,some 0),(1,some 48),(2,some 432)] rfl rfl ?_ ?_
  ·cbv;all_goals exact⟨⟨_,rfl,rfl⟩,⟨_,rfl,rfl⟩,⟨_,rfl,rfl⟩,⟨_,rfl,rfl⟩,⟨_,rfl,rfl⟩,⟨_,rfl,rfl⟩,trivial⟩
  cbv;all_goals exact⟨⟨_,rfl,_,rfl,rfl,rfl,rfl,trivial⟩,⟨_,rfl,rfl⟩,⟨_,rfl,rfl⟩,trivial⟩
 ·rintro⟨⟨n1,v1,w1⟩,hn1,hi1,h_1⟩ hq1;try dsimp only at hn1 hi1 h_1
  clear hq1;cbv;rcases n1 with _|n1
  ·have hb5:lt v1 a3=false:=bc hg hn1;rw[bD] at h_1;try rw[←hg] at h_1
   try rw[←ht] at h_1
   try dsimp only at h_1
   rw[hb5];cbv;iterate 4 try(rw[hb5];cbv)
   refine⟨w1,Wk.of [(0,some 2)] rfl rfl ?_ ?_,(Option.some.inj h_1).symm⟩
   ·cbv;all_goals exact⟨⟨_,rfl,rfl⟩,trivial⟩
   cbv;all_goals exact⟨⟨_,rfl,rfl⟩,trivial⟩
  have hb5:lt v1 a3=true:=bz hg hn1;have hl1:=dj hn1;have hs1:=cr hg hn1 hi1 hB1 (by decide);rw[bD] at h_1;try rw[←hg] at h_1
  try rw[←ht] at h_1
  try dsimp only at h_1
  rw[hb5];cbv;iterate 4 try(rw[hb5];cbv)
  cases hb6:(lt v1 (int (dlen (d_S x1))))
  ·rw[aa hb6] at h_1;cbv;refine⟨w1,Wk.of [(0,some 2)] rfl rfl ?_ ?_,(Option.some.inj h_1).symm⟩
   ·cbv;all_goals exact⟨⟨_,rfl,rfl⟩,trivial⟩
   cbv;all_goals exact⟨⟨_,rfl,rfl⟩,trivial⟩
  rw[ab hb6] at h_1;cbv;refine AStep.mk ⟨(en ht (al hg ht _)),(qd ht (aq hg ht _))⟩ ?_;cbv;obtain⟨x5,hx5,h_1⟩:=ac h_1;try dsimp only at h_1
  refine ACall.mk _ _ (by rw[show rd (d_S x1) 0 (dlen (d_S x1))=r_S x1 from gi hg ht (al hg ht _),show rd (d_I64 w1) 0 (dlen (d_I64 w1))=r_I64 w1 from ui hg ht (aq hg ht _)];try rfl) (hF _ _ _ (uL hg ht hx5)) (.inr (by simp only[Go.Vs.X.fresh,Go.Vs.X.freshs,kg,fD,Bool.and_self,hfr_I64])) (nb rfl) ?_
  cbv;try rw[hg] at h_1
  try rw[ht] at h_1
  refine⟨⟨(n1,(wrap .i64 (add v1 1)),x5),hs1.1,hs1.2,h_1⟩,Wk.of [(0,some 0),(1,some 1),(2,some 211)] rfl rfl ?_ ?_,Nat.lt_succ_self _⟩
  ·cbv;all_goals exact⟨⟨_,rfl,rfl⟩,⟨_,rfl,rfl⟩,⟨_,rfl,rfl⟩,⟨_,rfl,rfl⟩,⟨_,rfl,rfl⟩,⟨_,rfl,rfl⟩,trivial⟩
  cbv;all_goals exact⟨⟨_,rfl,_,rfl,rfl,rfl,rfl,trivial⟩,⟨_,rfl,rfl⟩,⟨_,rfl,rfl⟩,trivial⟩
 rintro y1 hy1;replace hy1:=hy1.symm;subst hy1;try dsimp only[lr,lrL,lrp,a9] at h
 cbv;obtain rfl:=Option.some.inj h;exact ARet.mk ⟨rfl,(aq hg ht _)⟩ hX.symm
def ir88:J:=js [jq 4 (.box 0),jm 8 (ki 0)] [1,2,3,4] (js [jl 12 3 4,jc 13 87 [12],jm 9 13] [1,2,3,4,9] (js [jm 14 9,jm 15 2,jc 16 89 [14,15],jm 10 16] [1,3,4,9,10] (js [jl 17 3 4,jm 18 1,jm 19 3,jm 20 9,jq 21 (.len false 20),jc 22 90 [17,18,19,21],jm 11 22] [10,11] (.seq (js [jm 23 10,jb 24 .lss .i 23 (ki 0),jm 25 24,jv 26 25 (.mv 11),jv 27 25 (.len false 26),jv 28 25 (.bin .eql .i 27 (ki 0)),jq 29 (.pick 25 kt 28)] [10,11,29] (.cond 29 (js [jq 8 (.mv (.k (V.i (-1))))] [8] .ret) .skip)) (js [jm 30 11,jm 31 10,ja 32 1 30 31,jk 33 32,jm 8 33] [8] .ret)))))
def rv88:List RV:=[.t 8]
def gb (g:G) (t:TE) (a0:Network) (a1:ByteArray) (a2:ByteArray) (a3:Int):Option Int:=
 cl (dG g t a0) fun x1=>
 lP (cJ g t x1 a2) fun x2=>
 cl (aZ g t a0 a1 a3 (g.int (g.dlen (t.d_S x1)))) fun x3=>
 br (g.lt x2 0)
 (
  some (-1))
 (
  br (g.eq (g.int (g.dlen (t.d_I64 x3))) 0)
  (
   some (-1))
  (
   gd (((0:Int)≤x2∧x2<(((g.dlen (t.d_I64 x3)):Nat):Int)))<|
   gt x3 (g.nat x2) fun x4=>
   some x4))
theorem qB {g:G} {t:TE} {a0:Network} {a1:ByteArray} {a2:ByteArray} {a3:Int} {r:Int} (hg:g=G.real) (ht:t=TE.real) (h:gb g t a0 a1 a2 a3=some r):Fn Tryz.prog 88 [.g (Network.rs t a0),.c (.v (.string a1)),.c (.v (.string a2)),.c (.v (.int .i64 a3))] (.c (.r (.v (.int .i64 r)))):=by
 obtain⟨X,hX⟩:=aE (.c (.r (.v (.int .i64 r))):X);rw[←hX];refine aB (rvs:=rv88) (j:=ir88) Tryz.func88 rfl (by kernel_rfl) (nb rfl) (by kernel_rfl) af ?_;intro g2 F hg2 hF;obtain rfl:g2=g:=hg2.unique.trans hg.symm;clear hg2;obtain⟨_,lt,_,eq,_,_,_,_,_,_,_,_,int,_,_,_,_,_,_,_,_,_,_,_,dlen,_,_,_,rd⟩:=g2;obtain⟨_,_,_,_,_,d_I64,_,_,r_S,d_S⟩:=t
 obtain⟨a0_Legs,a0_Off,a0_Change⟩:=a0;unfold gb at h;try dsimp only at h
 cbv;obtain⟨x1,hx1,h⟩:=ac h;try dsimp only at h
 refine ACall.mk _ _ rfl (hF _ _ _ (eU hg ht hx1)) (.inl rfl) (nb rfl) ?_;cbv;refine AStep.mk (en ht (al hg ht _)) ?_;cbv;obtain⟨x2,hx2,h⟩:=ah h;try dsimp only at h
 refine ACall.mk _ _ (by rw[show rd (d_S x1) 0 (dlen (d_S x1))=r_S x1 from gi hg ht (al hg ht _)];try rfl) (hF _ _ _ (dc hg ht hx2)) (.inr rfl) (nb rfl) ?_
 cbv;obtain⟨x3,hx3,h⟩:=ac h;try dsimp only at h
 refine ACall.mk _ _ rfl (hF _ _ _ (gD hg ht hx3)) (.inl rfl) (nb rfl) ?_;cbv
 cases hb1:(lt x2 0)
 rotate_left
 ·rw[ab hb1] at h;cbv;iterate 3 try(rw[hb1];cbv)
  obtain rfl:=Option.some.inj h;exact ARet.mk trivial hX.symm
 rw[aa hb1] at h;cbv;iterate 3 try(rw[hb1];cbv)
 cases hb2:(eq (int (dlen (d_I64 x3))) 0)
 rotate_left
 ·rw[ab hb2] at h;cbv;obtain rfl:=Option.some.inj h;exact ARet.mk trivial hX.symm
 rw[aa hb2] at h;cbv;obtain⟨hc1,h⟩:=aj h;refine AStep.mk hc1 ?_;cbv;obtain⟨x4,hx4,h⟩:=aP h;try dsimp only at h
 refine AGet.mk _ (bt hg ht hx4) ?_;cbv;obtain rfl:=Option.some.inj h;exact ARet.mk trivial hX.symm
end Go.Vs
