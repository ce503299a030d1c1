/- Part of the proofs of this seat's laws: Laa. No condition. -/
import Derived.Test.YtilplaaijbpilaaGreatTy
import Derived.Test.YtilplaaijbpilaaGreatTIRall
set_option linter.unusedVariables false
set_option linter.unusedSimpArgs false
set_option linter.unusedSectionVars false
namespace Go.Vs
set_option maxRecDepth 100000
def Hu:J:=js [jq 2 (.box 0),jm 4 (ki 0)] [1,2] (js [jm 5 1,jf 6 0 2,jk 7 6,jq 8 (.len true 7),jb 9 .sub .i 5 8,jm 1 9] [1,2] (.seq (js [jm 10 1,jb 11 .lss .i 10 (ki 0)] [1,2,11] (.cond 11 (js [jq 4 (.mv (.k (V.i (-1))))] [4] .ret) .skip)) (js [jm 12 1,jf 13 1 2,jk 14 13,jq 15 (.len true 14),jb 16 .sub .i 12 15,jm 1 16] [1] (.seq (js [jm 17 1,jb 18 .lss .i 17 (ki 0)] [1,18] (.cond 18 (js [jq 4 (.mv (.k (V.i (-1))))] [4] .ret) .skip)) (js [jm 19 1,jm 4 19] [4] .ret)))))
def Hc:List RV:=[.t 4]
open Go.Proofs Go.IntWalk
set_option linter.unusedVariables false
set_option maxHeartbeats 4000000
def oD (g:G) (t:TE) (a0:Leg) (a1:Int):Int:=
 br (g.lt (g.wrap .i64 (g.sub a1 (g.int (g.slen a0.From)))) 0)
 (
  (-1))
 (
  br (g.lt (g.wrap .i64 (g.sub (g.wrap .i64 (g.sub a1 (g.int (g.slen a0.From)))) (g.int (g.slen a0.To)))) 0)
  (
   (-1))
  (
   (g.wrap .i64 (g.sub (g.wrap .i64 (g.sub a1 (g.int (g.slen a0.From)))) (g.int (g.slen a0.To))))))
theorem AD {g:G} {t:TE} {a0:Leg} {a1:Int} {r:Int} (hg:g=G.real) (ht:t=TE.real) (h:oD g t a0 a1=r):Fn Tryz.prog 100 [.g (Leg.rs t a0),.c (.v (.int .i64 a1))] (.c (.r (.v (.int .i64 r)))):=by
 obtain⟨X,hX⟩:=aE (.c (.r (.v (.int .i64 r))):X);rw[←hX];refine au (rvs:=Hc) (j:=Hu) Tryz.func100 rfl (by kernel_rfl) (nb rfl) (by kernel_rfl) ae ?_;intro g2 F hg2 hF;obtain rfl:g2=g:=hg2.unique.trans hg.symm;clear hg2;obtain⟨wrap,lt,_,_,_,_,_,_,_,_,_,_,int,_,sub,_,_,_,_,_,_,_,_,_,_,_,_,_,_,_,_,_,_,_,_,slen⟩:=g2;obtain⟨_⟩:=t
 obtain⟨a0_From,a0_To,a0_Start,a0_Takes,a0_Days,a0_Room⟩:=a0;unfold oD at h;try dsimp only at h
 cbv
 cases hb1:(lt (wrap .i64 (sub a1 (int (slen a0_From)))) 0)
 rotate_left
 ·rw[ab hb1] at h;cbv;subst h;exact ARet.mk trivial hX.symm
 rw[aa hb1] at h;cbv
 cases hb2:(lt (wrap .i64 (sub (wrap .i64 (sub a1 (int (slen a0_From)))) (int (slen a0_To)))) 0)
 rotate_left
 ·rw[ab hb2] at h;cbv;subst h;exact ARet.mk trivial hX.symm
 rw[aa hb2] at h;cbv;subst h;exact ARet.mk trivial hX.symm
def ir59:J:=js [jm 4 (ki 0)] [0,1] (js [jm 6 1,jm 7 0,jq 8 (.len false 7),jb 9 .sub .i 6 8,jm 1 9] [0,1] (.seq (js [jm 10 1,jb 11 .lss .i 10 (ki 0)] [0,1,11] (.cond 11 (js [jq 4 (.mv (.k (V.i (-1))))] [4] .ret) .skip)) (.seq (js [jm 5 (ki 0)] [0,1,5] (.bl 0 (.seq (js [jm 12 5,jm 13 0,jq 14 (.len false 13),jb 15 .lss .i 12 14] [0,1,5,15] (.cond 15 .skip (.exit 0))) (.seq (.block 1 (js [jm 18 0,jm 19 5,ja 20 6 18 19,jl 21 6 20,jm 22 1,jc 23 100 [21,22],jm 1 23] [0,1,5] (js [jm 24 1,jb 25 .lss .i 24 (ki 0)] [0,1,5,25] (.cond 25 (js [jq 4 (.mv (.k (V.i (-1))))] [4] .ret) .skip)))) (.reg none [jm 16 5,jb 17 .add .i 16 (ki 1),jm 5 17] [0,1,5]))))) (js [jm 26 1,jm 4 26] [4] .ret))))
def rv59:List RV:=[.t 4]
def eM (g:G) (t:TE):List Leg→Int→LR Int Int
 |[],v1=>
  (LR.out v1)
 |z1::ls1,v1=>
  lP (oD g t z1 v1) fun x1=>
  br (g.lt x1 0)
  (
   (LR.ret (-1)))
  (
   eM g t ls1 x1)
def md (g:G) (t:TE) (a0:List Leg) (a1:Int):Int:=
 br (g.lt (g.wrap .i64 (g.sub a1 (g.llen (t.r_Leg a0)))) 0)
 (
  (-1))
 (
  lP (eM g t a0 (g.wrap .i64 (g.sub a1 (g.llen (t.r_Leg a0))))) fun o1=>lrp o1 fun y1=>
  y1)
theorem y8 {g:G} {t:TE} {a0:List Leg} {a1:Int} {r:Int} (hg:g=G.real) (ht:t=TE.real) (h:md g t a0 a1=r):Fn Tryz.prog 59 [.c (.s 6 (t.r_Leg a0)),.c (.v (.int .i64 a1))] (.c (.r (.v (.int .i64 r)))):=by
 obtain⟨X,hX⟩:=aE (.c (.r (.v (.int .i64 r))):X);rw[←hX];refine au (rvs:=rv59) (j:=ir59) Tryz.func59 rfl (by kernel_rfl) (nb rfl) (by kernel_rfl) ae ?_;intro g2 F hg2 hF;obtain rfl:g2=g:=hg2.unique.trans hg.symm;clear hg2;obtain⟨wrap,lt,_,_,_,_,_,_,_,_,_,_,_,add,sub,_,_,_,_,_,_,llen⟩:=g2;obtain⟨r_Leg⟩:=t
 unfold md at h;try dsimp only at h
 cbv
 cases hb1:(lt (wrap .i64 (sub a1 (llen (r_Leg a0)))) 0)
 rotate_left
 ·rw[ab hb1] at h;cbv;subst h;exact ARet.mk trivial hX.symm
 rw[aa hb1] at h;cbv;obtain⟨o1,ho1,h⟩:=ak h;try dsimp only at h
 try rw[hg] at ho1
 try rw[ht] at ho1
 refine ABL.mk {p:Nat×Int×Int//p.1≤a0.length∧p.2.1=((p.1:Nat):Int)∧eM G.real TE.real (List.drop p.1 a0) p.2.2=o1} (fun⟨⟨k1,v2,v1⟩,_⟩=>({sl:=[(0,.c (.r (.s 6 (r_Leg a0)))),(1,.c (.r (.v (.int .i64 v1)))),(5,.c (.r (.v (.int .i64 v2))))],tab:=[]}:St)) 0 (fun p=>a0.length-p.1.1) ⟨(0,0,(wrap .i64 (sub a1 (llen (r_Leg a0))))),Nat.zero_le _,rfl,ho1⟩ (Int) (fun y1=>({sl:=[(1,.c (.r (.v (.int .i64 y1))))],tab:=[]}:St)) 0 (fun y=>o1=LR.out y) ?_ ?_ ?_
 ·refine Wk.of [] rfl rfl ?_ ?_
  ·cbv;all_goals exact⟨⟨_,rfl,rfl⟩,⟨_,rfl,rfl⟩,⟨_,rfl,rfl⟩,trivial⟩
  cbv;all_goals exact trivial
 ·rintro⟨⟨k1,v2,v1⟩,hk1,hi1,h_1⟩ hq1;have hm1:=(hq1.1 0 _ _ rfl);try dsimp only at hk1 hi1 h_1
  clear hq1;cbv
  by_cases hc1_:k1<a0.length
  ·have hb2:lt v2 (llen (r_Leg a0))=true:=cL hg ht hi1 hc1_;have hs1:=ff hg ht hi1 hc1_ hm1;obtain⟨z1,hz1⟩:=aF hc1_;rw[aw hz1] at h_1;rw[eM] at h_1;obtain⟨z1_From,z1_To,z1_Start,z1_Takes,z1_Days,z1_Room⟩:=z1;try rw[←hg] at h_1
   try rw[←ht] at h_1
   try dsimp only at h_1
   rw[hb2];cbv;refine AStep.mk (e7 hi1) ?_;cbv;refine AGet.mk _ (eU hg ht hi1 hz1) ?_;cbv;obtain⟨x1,hx1,h_1⟩:=ak h_1;try dsimp only at h_1
   refine ACall.mk _ _ rfl (hF _ _ _ (AD hg ht hx1)) (.inl rfl) (nb rfl) ?_;cbv
   cases hb3:(lt x1 0)
   rotate_left
   ·rw[ab hb3] at h_1;cbv;subst h_1;try dsimp only[lr,lrL,lrp,aP] at h
    subst h;exact ARet.mk trivial hX.symm
   rw[aa hb3] at h_1;cbv;try rw[hg] at h_1
   try rw[ht] at h_1
   refine⟨⟨(k1+1,(wrap .i64 (add v2 1)),x1),hc1_,hs1,h_1⟩,Wk.of [] rfl rfl ?_ ?_,aO hc1_⟩
   ·cbv;all_goals exact⟨⟨_,rfl,rfl⟩,⟨_,rfl,rfl⟩,⟨_,rfl,rfl⟩,trivial⟩
   cbv;all_goals exact trivial
  have hb2:lt v2 (llen (r_Leg a0))=false:=cg hg ht hi1 hc1_;rw[List.drop_of_length_le (Nat.le_of_not_lt hc1_)] at h_1;rw[eM] at h_1;try rw[←hg] at h_1
  try rw[←ht] at h_1
  try dsimp only at h_1
  rw[hb2];cbv;refine⟨v1,Wk.of [] rfl rfl ?_ ?_,h_1.symm⟩
  ·cbv;all_goals exact⟨⟨_,rfl,rfl⟩,trivial⟩
  cbv;all_goals exact trivial
 rintro y1 hy1;replace hy1:=hy1.symm;subst hy1;try dsimp only[lr,lrL,lrp,aP] at h
 cbv;subst h;exact ARet.mk trivial hX.symm
def ir60:J:=js [jm 4 (ki 0)] [0,1] (js [jm 5 1,jm 6 0,jq 7 (.len false 6),jb 8 .sub .i 5 7,jm 1 8] [1] (.seq (js [jm 9 1,jb 10 .lss .i 9 (ki 0)] [1,10] (.cond 10 (js [jq 4 (.mv (.k (V.i (-1))))] [4] .ret) .skip)) (js [jm 11 1,jm 4 11] [4] .ret)))
def rv60:List RV:=[.t 4]
def lQ (g:G) (t:TE) (a0:List Int) (a1:Int):Int:=
 br (g.lt (g.wrap .i64 (g.sub a1 (g.llen (t.r_I64 a0)))) 0)
 (
  (-1))
 (
  (g.wrap .i64 (g.sub a1 (g.llen (t.r_I64 a0)))))
theorem yi {g:G} {t:TE} {a0:List Int} {a1:Int} {r:Int} (hg:g=G.real) (ht:t=TE.real) (h:lQ g t a0 a1=r):Fn Tryz.prog 60 [.c (.s 1 (t.r_I64 a0)),.c (.v (.int .i64 a1))] (.c (.r (.v (.int .i64 r)))):=by
 obtain⟨X,hX⟩:=aE (.c (.r (.v (.int .i64 r))):X);rw[←hX];refine au (rvs:=rv60) (j:=ir60) Tryz.func60 rfl (by kernel_rfl) (nb rfl) (by kernel_rfl) ae ?_;intro g2 F hg2 hF;obtain rfl:g2=g:=hg2.unique.trans hg.symm;clear hg2;obtain⟨wrap,lt,_,_,_,_,_,_,_,_,_,_,_,_,sub,_,_,_,_,_,_,llen⟩:=g2;obtain⟨_,_,r_I64⟩:=t
 unfold lQ at h;try dsimp only at h
 cbv
 cases hb1:(lt (wrap .i64 (sub a1 (llen (r_I64 a0)))) 0)
 rotate_left
 ·rw[ab hb1] at h;cbv;subst h;exact ARet.mk trivial hX.symm
 rw[aa hb1] at h;cbv;subst h;exact ARet.mk trivial hX.symm
def ir15:J:=js [jq 2 (.box 0),jm 4 (ki 0)] [1,2] (js [jf 5 0 2,jk 6 5,jm 7 1,jc 8 59 [6,7],jm 1 8] [1,2] (.seq (js [jm 9 1,jb 10 .lss .i 9 (ki 0)] [1,2,10] (.cond 10 (js [jq 4 (.mv (.k (V.i (-1))))] [4] .ret) .skip)) (js [jf 11 1 2,jk 12 11,jm 13 1,jc 14 60 [12,13],jm 1 14] [1] (.seq (js [jm 15 1,jb 16 .lss .i 15 (ki 0)] [1,16] (.cond 16 (js [jq 4 (.mv (.k (V.i (-1))))] [4] .ret) .skip)) (js [jm 17 1,jm 4 17] [4] .ret)))))
def rv15:List RV:=[.t 4]
def gD (g:G) (t:TE) (a0:Network) (a1:Int):Int:=
 lP (md g t a0.Legs a1) fun x1=>
 br (g.lt x1 0)
 (
  (-1))
 (
  lP (lQ g t a0.Off x1) fun x2=>
  br (g.lt x2 0)
  (
   (-1))
  (
   x2))
theorem nq {g:G} {t:TE} {a0:Network} {a1:Int} {r:Int} (hg:g=G.real) (ht:t=TE.real) (h:gD g t a0 a1=r):Fn Tryz.prog 15 [.g (Network.rs t a0),.c (.v (.int .i64 a1))] (.c (.r (.v (.int .i64 r)))):=by
 obtain⟨X,hX⟩:=aE (.c (.r (.v (.int .i64 r))):X);rw[←hX];refine au (rvs:=rv15) (j:=ir15) Tryz.func15 rfl (by kernel_rfl) (nb rfl) (by kernel_rfl) ae ?_;intro g2 F hg2 hF;obtain rfl:g2=g:=hg2.unique.trans hg.symm;clear hg2;obtain⟨_,lt⟩:=g2;obtain⟨_⟩:=t
 obtain⟨a0_Legs,a0_Off,a0_Change⟩:=a0;unfold gD at h;try dsimp only at h
 cbv;obtain⟨x1,hx1,h⟩:=ak h;try dsimp only at h
 refine ACall.mk _ _ rfl (hF _ _ _ (y8 hg ht hx1)) (.inl rfl) (nb rfl) ?_;cbv
 cases hb1:(lt x1 0)
 rotate_left
 ·rw[ab hb1] at h;cbv;subst h;exact ARet.mk trivial hX.symm
 rw[aa hb1] at h;cbv;obtain⟨x2,hx2,h⟩:=ak h;try dsimp only at h
 refine ACall.mk _ _ rfl (hF _ _ _ (yi hg ht hx2)) (.inl rfl) (nb rfl) ?_;cbv
 cases hb2:(lt x2 0)
 rotate_left
 ·rw[ab hb2] at h;cbv;subst h;exact ARet.mk trivial hX.symm
 rw[aa hb2] at h;cbv;subst h;exact ARet.mk trivial hX.symm
def ir61:J:=js [jq 2 (.box 0),jm 4 (ki 0)] [1,2] (js [jm 5 1,jf 6 3 2,jk 7 6,jq 8 (.len true 7),jb 9 .sub .i 5 8,jm 1 9] [1] (.seq (js [jm 10 1,jb 11 .lss .i 10 (ki 0)] [1,11] (.cond 11 (js [jq 4 (.mv (.k (V.i (-1))))] [4] .ret) .skip)) (js [jm 12 1,jm 4 12] [4] .ret)))
def rv61:List RV:=[.t 4]
def lX (g:G) (t:TE) (a0:Scan) (a1:Int):Int:=
 br (g.lt (g.wrap .i64 (g.sub a1 (g.int (g.slen a0.Place)))) 0)
 (
  (-1))
 (
  (g.wrap .i64 (g.sub a1 (g.int (g.slen a0.Place)))))
theorem yn {g:G} {t:TE} {a0:Scan} {a1:Int} {r:Int} (hg:g=G.real) (ht:t=TE.real) (h:lX g t a0 a1=r):Fn Tryz.prog 61 [.g (Scan.rs t a0),.c (.v (.int .i64 a1))] (.c (.r (.v (.int .i64 r)))):=by
 obtain⟨X,hX⟩:=aE (.c (.r (.v (.int .i64 r))):X);rw[←hX];refine au (rvs:=rv61) (j:=ir61) Tryz.func61 rfl (by kernel_rfl) (nb rfl) (by kernel_rfl) ae ?_;intro g2 F hg2 hF;obtain rfl:g2=g:=hg2.unique.trans hg.symm;clear hg2;obtain⟨wrap,lt,_,_,_,_,_,_,_,_,_,_,int,_,sub,_,_,_,_,_,_,_,_,_,_,_,_,_,_,_,_,_,_,_,_,slen⟩:=g2;obtain⟨_⟩:=t
 obtain⟨a0_Thing,a0_At,a0_Kind,a0_Place,⟨a0_Trip_Leg,a0_Trip_Day⟩⟩:=a0;unfold lX at h;try dsimp only at h
 cbv
 cases hb1:(lt (wrap .i64 (sub a1 (int (slen a0_Place)))) 0)
 rotate_left
 ·rw[ab hb1] at h;cbv;subst h;exact ARet.mk trivial hX.symm
 rw[aa hb1] at h;cbv;subst h;exact ARet.mk trivial hX.symm
def ir16:J:=js [jm 4 (ki 0)] [0,1] (js [jm 6 1,jm 7 0,jq 8 (.len false 7),jb 9 .sub .i 6 8,jm 1 9] [0,1] (.seq (js [jm 10 1,jb 11 .lss .i 10 (ki 0)] [0,1,11] (.cond 11 (js [jq 4 (.mv (.k (V.i (-1))))] [4] .ret) .skip)) (.seq (js [jm 5 (ki 0)] [0,1,5] (.bl 0 (.seq (js [jm 12 5,jm 13 0,jq 14 (.len false 13),jb 15 .lss .i 12 14] [0,1,5,15] (.cond 15 .skip (.exit 0))) (.seq (.block 1 (js [jm 18 0,jm 19 5,ja 20 6 18 19,jl 21 6 20,jm 22 1,jc 23 61 [21,22],jm 1 23] [0,1,5] (js [jm 24 1,jb 25 .lss .i 24 (ki 0)] [0,1,5,25] (.cond 25 (js [jq 4 (.mv (.k (V.i (-1))))] [4] .ret) .skip)))) (.reg none [jm 16 5,jb 17 .add .i 16 (ki 1),jm 5 17] [0,1,5]))))) (js [jm 26 1,jm 4 26] [4] .ret))))
def rv16:List RV:=[.t 4]
def ed (g:G) (t:TE):List Scan→Int→LR Int Int
 |[],v1=>
  (LR.out v1)
 |z1::ls1,v1=>
  lP (lX g t (Scan.mk z1.Thing z1.At z1.Kind z1.Place (Trip.mk z1.Trip.Leg z1.Trip.Day)) v1) fun x1=>
  br (g.lt x1 0)
  (
   (LR.ret (-1)))
  (
   ed g t ls1 x1)
def jn (g:G) (t:TE) (a0:List Scan) (a1:Int):Int:=
 br (g.lt (g.wrap .i64 (g.sub a1 (g.llen (t.r_Scan a0)))) 0)
 (
  (-1))
 (
  lP (ed g t a0 (g.wrap .i64 (g.sub a1 (g.llen (t.r_Scan a0))))) fun o1=>lrp o1 fun y1=>
  y1)
theorem qf {g:G} {t:TE} {a0:List Scan} {a1:Int} {r:Int} (hg:g=G.real) (ht:t=TE.real) (h:jn g t a0 a1=r):Fn Tryz.prog 16 [.c (.s 6 (t.r_Scan a0)),.c (.v (.int .i64 a1))] (.c (.r (.v (.int .i64 r)))):=by
 obtain⟨X,hX⟩:=aE (.c (.r (.v (.int .i64 r))):X);rw[←hX];refine au (rvs:=rv16) (j:=ir16) Tryz.func16 rfl (by kernel_rfl) (nb rfl) (by kernel_rfl) ae ?_;intro g2 F hg2 hF;obtain rfl:g2=g:=hg2.unique.trans hg.symm;clear hg2;obtain⟨wrap,lt,_,_,_,_,_,_,_,_,_,_,_,add,sub,_,_,_,_,_,_,llen⟩:=g2;obtain⟨_,_,_,_,r_Scan⟩:=t
 unfold jn at h;try dsimp only at h
 cbv
 cases hb1:(lt (wrap .i64 (sub a1 (llen (r_Scan a0)))) 0)
 rotate_left
 ·rw[ab hb1] at h;cbv;subst h;exact ARet.mk trivial hX.symm
 rw[aa hb1] at h;cbv;obtain⟨o1,ho1,h⟩:=ak h;try dsimp only at h
 try rw[hg] at ho1
 try rw[ht] at ho1
 refine ABL.mk {p:Nat×Int×Int//p.1≤a0.length∧p.2.1=((p.1:Nat):Int)∧ed G.real TE.real (List.drop p.1 a0) p.2.2=o1} (fun⟨⟨k1,v2,v1⟩,_⟩=>({sl:=[(0,.c (.r (.s 6 (r_Scan a0)))),(1,.c (.r (.v (.int .i64 v1)))),(5,.c (.r (.v (.int .i64 v2))))],tab:=[]}:St)) 0 (fun p=>a0.length-p.1.1) ⟨(0,0,(wrap .i64 (sub a1 (llen (r_Scan a0))))),Nat.zero_le _,rfl,ho1⟩ (Int) (fun y1=>({sl:=[(1,.c (.r (.v (.int .i64 y1))))],tab:=[]}:St)) 0 (fun y=>o1=LR.out y) ?_ ?_ ?_
 ·refine Wk.of [] rfl rfl ?_ ?_
  ·cbv;all_goals exact⟨⟨_,rfl,rfl⟩,⟨_,rfl,rfl⟩,⟨_,rfl,rfl⟩,trivial⟩
  cbv;all_goals exact trivial
 ·rintro⟨⟨k1,v2,v1⟩,hk1,hi1,h_1⟩ hq1;have hm1:=(hq1.1 0 _ _ rfl);try dsimp only at hk1 hi1 h_1
  clear hq1;cbv
  by_cases hc1_:k1<a0.length
  ·have hb2:lt v2 (llen (r_Scan a0))=true:=gi hg ht hi1 hc1_;have hs1:=jP hg ht hi1 hc1_ hm1;obtain⟨z1,hz1⟩:=aF hc1_;rw[aw hz1] at h_1;rw[ed] at h_1;obtain⟨z1_Thing,z1_At,z1_Kind,z1_Place,⟨z1_Trip_Leg,z1_Trip_Day⟩⟩:=z1;try rw[←hg] at h_1
   try rw[←ht] at h_1
   try dsimp only at h_1
   rw[hb2];cbv;refine AStep.mk (e7 hi1) ?_;cbv;refine AGet.mk _ (dU hg ht hi1 hz1) ?_;cbv;obtain⟨x1,hx1,h_1⟩:=ak h_1;try dsimp only at h_1
   refine ACall.mk _ _ rfl (hF _ _ _ (yn hg ht hx1)) (.inl rfl) (nb rfl) ?_;cbv
   cases hb3:(lt x1 0)
   rotate_left
   ·rw[ab hb3] at h_1;cbv;subst h_1;try dsimp only[lr,lrL,lrp,aP] at h
    subst h;exact ARet.mk trivial hX.symm
   rw[aa hb3] at h_1;cbv;try rw[hg] at h_1
   try rw[ht] at h_1
   refine⟨⟨(k1+1,(wrap .i64 (add v2 1)),x1),hc1_,hs1,h_1⟩,Wk.of [] rfl rfl ?_ ?_,aO hc1_⟩
   ·cbv;all_goals exact⟨⟨_,rfl,rfl⟩,⟨_,rfl,rfl⟩,⟨_,rfl,rfl⟩,trivial⟩
   cbv;all_goals exact trivial
  have hb2:lt v2 (llen (r_Scan a0))=false:=fM hg ht hi1 hc1_;rw[List.drop_of_length_le (Nat.le_of_not_lt hc1_)] at h_1;rw[ed] at h_1;try rw[←hg] at h_1
  try rw[←ht] at h_1
  try dsimp only at h_1
  rw[hb2];cbv;refine⟨v1,Wk.of [] rfl rfl ?_ ?_,h_1.symm⟩
  ·cbv;all_goals exact⟨⟨_,rfl,rfl⟩,trivial⟩
  cbv;all_goals exact trivial
 rintro y1 hy1;replace hy1:=hy1.symm;subst hy1;try dsimp only[lr,lrL,lrp,aP] at h
 cbv;subst h;exact ARet.mk trivial hX.symm
def Gm:J:=js [jq 1 (.box 0),jq 2 (.alloc [.r (.v (.string .empty)),.r (.v (.string .empty)),.r (.v (.int .i64 0)),.r (.v (.int .i64 0)),.r (.v (.int .i64 0)),.r (.v (.int .i64 0))])] [1,2] (js [jq 3 (.alloc [.r (.v (.string .empty)),.r (.v (.string .empty)),.r (.v (.int .i64 0)),.r (.v (.int .i64 0)),.r (.v (.int .i64 0)),.r (.v (.int .i64 0))])] [1,2,3] (js [jf 4 0 1,jk 5 4,jf 6 0 3,jp (.st 1 6 5)] [1,2,3] (js [jf 7 1 1,jk 8 7,jf 9 1 3,jp (.st 1 9 8)] [1,2,3] (js [jf 10 2 1,jk 11 10,jf 12 2 3,jp (.st 1 12 11)] [1,2,3] (js [jf 13 3 1,jk 14 13,jf 15 3 3,jp (.st 1 15 14)] [1,2,3] (js [jf 16 4 1,jk 17 16,jf 18 4 3,jp (.st 1 18 17)] [1,2,3] (js [jf 19 5 1,jk 20 19,jf 21 5 3,jp (.st 1 21 20)] [2,3] (js [jl 22 6 3,jp (.st 6 2 22)] [2] .ret))))))))
def G2:List RV:=[.c 2 true 6]
def qT (g:G) (t:TE) (a0:Leg):Leg:=
 a0
theorem AW {g:G} {t:TE} {a0:Leg} {r:Leg} (hg:g=G.real) (ht:t=TE.real) (h:qT g t a0=r):Fn Tryz.prog 103 [.g (Leg.rs t a0)] (.g (Leg.ds t r)):=by
 obtain⟨X,hX⟩:=aE (.g (Leg.ds t r):X);rw[←hX];refine au (rvs:=G2) (j:=Gm) Tryz.func103 rfl (by kernel_rfl) (nb rfl) (by kernel_rfl) ae ?_;intro g2 F hg2 hF;obtain rfl:g2=g:=hg2.unique.trans hg.symm;clear hg2;obtain⟨_⟩:=g2;obtain⟨_⟩:=t
 obtain⟨a0_From,a0_To,a0_Start,a0_Takes,a0_Days,a0_Room⟩:=a0;unfold qT at h;try dsimp only at h
 cbv;subst h;exact ARet.mk trivial hX.symm
def ir64:J:=js [jq 2 (.mv (.k (.c (.n 6))))] [0] (js [jm 5 0,jq 6 (.len false 5),jq 7 (.mk 6 64 [.r (.v (.string .empty)),.r (.v (.string .empty)),.r (.v (.int .i64 0)),.r (.v (.int .i64 0)),.r (.v (.int .i64 0)),.r (.v (.int .i64 0))] 6),jm 3 7] [0,3] (.seq (js [jm 4 (ki 0)] [0,3,4] (.bl 0 (.seq (js [jm 8 4,jm 9 0,jq 10 (.len false 9),jb 11 .lss .i 8 10] [0,3,4,11] (.cond 11 .skip (.exit 0))) (.seq (.block 1 (.reg none [jm 14 3,jm 15 4,jm 16 0,jm 17 4,ja 18 6 16 17,jl 19 6 18,jc 20 103 [19],ja 21 6 14 15,jp (.st 6 21 20)] [0,3,4])) (.reg none [jm 12 4,jb 13 .add .i 12 (ki 1),jm 4 13] [0,3,4]))))) (js [jm 22 3,jm 2 22] [2] .ret)))
def rv64:List RV:=[.t 2]
def eQ (g:G) (t:TE):List Leg→Int→List Leg→Option (List Leg)
 |[],v1,w1=>
  some w1
 |z1::ls1,v1,w1=>
  lP (qT g t z1) fun x1=>
  gd (((0:Int)≤v1∧v1<(((g.dlen (t.d_Leg w1)):Nat):Int)))<|
  gt w1 (g.nat v1) fun x2=>
  lP (List.set w1 (g.nat v1) (Leg.mk x1.From x1.To x1.Start x1.Takes x1.Days x1.Room)) fun(l2:List Leg)=>
  eQ g t ls1 (g.wrap .i64 (g.add v1 1)) l2
def mq (g:G) (t:TE) (a0:List Leg):Option (List Leg):=
 gd (((0:Int)≤(g.llen (t.r_Leg a0))∧64* (g.llen (t.r_Leg a0))≤70368744177664∧(g.llen (t.r_Leg a0))≤4611686018427387904))<|
 lP (List.replicate (g.nat (g.llen (t.r_Leg a0))) (Leg.mk ByteArray.empty ByteArray.empty 0 0 0 0)) fun(l1:List Leg)=>
 cl (eQ g t a0 0 l1) fun y1=>
 some y1
theorem y9 {g:G} {t:TE} {a0:List Leg} {r:List Leg} (hg:g=G.real) (ht:t=TE.real) (h:mq g t a0=some r):Fn Tryz.prog 64 [.c (.s 6 (t.r_Leg a0))] (.c (.o 6 (t.d_Leg r))):=by
 obtain⟨X,hX⟩:=aE (.c (.o 6 (t.d_Leg r)):X);rw[←hX];refine au (rvs:=rv64) (j:=ir64) Tryz.func64 rfl (by kernel_rfl) (nb rfl) (by kernel_rfl) ae ?_;intro g2 F hg2 hF;obtain rfl:g2=g:=hg2.unique.trans hg.symm;clear hg2;obtain⟨wrap,lt,_,_,_,_,_,_,_,_,_,_,_,add,_,_,_,_,_,_,_,llen,_,_,dlen⟩:=g2;obtain⟨r_Leg,d_Leg⟩:=t
 unfold mq at h;try dsimp only at h
 cbv;obtain⟨hc2,h⟩:=ah h;refine AStep.mk (Ca hc2) ?_;cbv;obtain⟨l1,hl1,h⟩:=ak h;try dsimp only at h
 refine ANew.mk (d_Leg l1) (dlen (d_Leg l1)) (by rw[←hl1];exact CI hg ht _ (Leg.mk ByteArray.empty ByteArray.empty 0 0 0 0)) (by rw[←hl1];exact Bs hg ht _ (Leg.mk ByteArray.empty ByteArray.empty 0 0 0 0)) ?_;cbv;obtain⟨o1,ho1,h⟩:=ac h;try dsimp only at h
 try rw[hg] at ho1
 try rw[ht] at ho1
 refine ABL.mk {p:Nat×Int×List Leg//p.1≤a0.length∧p.2.1=((p.1:Nat):Int)∧eQ G.real TE.real (List.drop p.1 a0) p.2.1 p.2.2=some o1} (fun⟨⟨k1,v1,w1⟩,_⟩=>({sl:=[(0,.c (.r (.s 6 (r_Leg a0)))),(3,.c (.f 0 6 0 (dlen (d_Leg w1)))),(4,.c (.r (.v (.int .i64 v1))))],tab:=[(0,some (.arr 6 (d_Leg w1)))]}:St)) 1 (fun p=>a0.length-p.1.1) ⟨(0,0,l1),Nat.zero_le _,rfl,ho1⟩ (List Leg) (fun y1=>({sl:=[(3,.c (.f 0 6 0 (dlen (d_Leg y1))))],tab:=[(0,some (.arr 6 (d_Leg y1)))]}:St)) 1 (fun y=>o1=y) ?_ ?_ ?_
 ·refine Wk.of [(0,some 48)] rfl rfl ?_ ?_
  ·cbv;all_goals exact⟨⟨_,rfl,rfl⟩,⟨_,rfl,rfl⟩,⟨_,rfl,rfl⟩,trivial⟩
  cbv;all_goals exact⟨⟨_,rfl,rfl⟩,trivial⟩
 ·rintro⟨⟨k1,v1,w1⟩,hk1,hi1,h_1⟩ hq1;have hm1:=(hq1.1 0 _ _ rfl);try dsimp only at hk1 hi1 h_1
  clear hq1;cbv
  by_cases hc1_:k1<a0.length
  ·have hb1:lt v1 (llen (r_Leg a0))=true:=cL hg ht hi1 hc1_;have hs1:=ff hg ht hi1 hc1_ hm1;obtain⟨z1,hz1⟩:=aF hc1_;rw[aw hz1] at h_1;rw[eQ] at h_1;obtain⟨z1_From,z1_To,z1_Start,z1_Takes,z1_Days,z1_Room⟩:=z1;try rw[←hg] at h_1
   try rw[←ht] at h_1
   try dsimp only at h_1
   rw[hb1];cbv;refine AStep.mk (e7 hi1) ?_;cbv;refine AGet.mk _ (eU hg ht hi1 hz1) ?_;cbv;obtain⟨x1,hx1,h_1⟩:=ak h_1;obtain⟨x1_From,x1_To,x1_Start,x1_Takes,x1_Days,x1_Room⟩:=x1;try dsimp only at h_1
   refine ACall.mk _ _ rfl (hF _ _ _ (AW hg ht hx1)) (.inl rfl) (nb rfl) ?_;cbv;obtain⟨hc1,h_1⟩:=ah h_1;refine AStep.mk hc1 ?_;cbv;obtain⟨x2,hx2,h_1⟩:=aB h_1;obtain⟨x2_From,x2_To,x2_Start,x2_Takes,x2_Days,x2_Room⟩:=x2;try dsimp only at h_1
   refine AGet.mk _ (hZ hg ht hx2) ?_;cbv;obtain⟨l2,hl2,h_1⟩:=ak h_1;try dsimp only at h_1
   refine ANew.mk (d_Leg l2) _ (by rw[←hl2];exact jZ hg ht _ _ (Leg.mk x1_From x1_To x1_Start x1_Takes x1_Days x1_Room)) rfl ?_;have hnl2:(dlen (d_Leg w1))=(d_Leg l2).length:=(by rw[←hl2,it ht];exact(bN hg ht _));cbv;try rw[hg] at h_1
   try rw[ht] at h_1
   refine⟨⟨(k1+1,(wrap .i64 (add v1 1)),l2),hc1_,hs1,h_1⟩,Wk.of [(0,some 0)] rfl rfl ?_ ?_,aO hc1_⟩
   ·cbv;all_goals try rw[show(dlen (d_Leg w1))=(dlen (d_Leg l2)) from(hnl2).trans (bN hg ht _).symm]
    all_goals exact⟨⟨_,rfl,rfl⟩,⟨_,rfl,rfl⟩,⟨_,rfl,rfl⟩,trivial⟩
   cbv;all_goals try rw[show(dlen (d_Leg w1))=(dlen (d_Leg l2)) from(hnl2).trans (bN hg ht _).symm]
   all_goals exact⟨⟨_,rfl,rfl⟩,trivial⟩
  have hb1:lt v1 (llen (r_Leg a0))=false:=cg hg ht hi1 hc1_;rw[List.drop_of_length_le (Nat.le_of_not_lt hc1_)] at h_1;rw[eQ] at h_1;try rw[←hg] at h_1
  try rw[←ht] at h_1
  try dsimp only at h_1
  rw[hb1];cbv;refine⟨w1,Wk.of [(0,some 0)] rfl rfl ?_ ?_,(Option.some.inj h_1).symm⟩
  ·cbv;all_goals exact⟨⟨_,rfl,rfl⟩,trivial⟩
  cbv;all_goals exact⟨⟨_,rfl,rfl⟩,trivial⟩
 rintro y1 hy1;replace hy1:=hy1.symm;subst hy1;try dsimp only[lr,lrL,lrp,aP] at h
 cbv;obtain rfl:=Option.some.inj h;exact ARet.mk ⟨rfl,(bN hg ht _)⟩ hX.symm
def ir65:J:=js [jq 2 (.mv (.k (.c (.n 1))))] [0] (js [jm 5 0,jq 6 (.len false 5),jq 7 (.mk 1 8 [.r (.v (.int .i64 0))] 6),jm 3 7] [0,3] (.seq (js [jm 4 (ki 0)] [0,3,4] (.bl 0 (.seq (js [jm 8 4,jm 9 0,jq 10 (.len false 9),jb 11 .lss .i 8 10] [0,3,4,11] (.cond 11 .skip (.exit 0))) (.seq (.block 1 (.reg none [jm 14 3,jm 15 4,jm 16 0,jm 17 4,ja 18 1 16 17,jk 19 18,ja 20 1 14 15,jp (.st 1 20 19)] [0,3,4])) (.reg none [jm 12 4,jb 13 .add .i 12 (ki 1),jm 4 13] [0,3,4]))))) (js [jm 21 3,jm 2 21] [2] .ret)))
def rv65:List RV:=[.t 2]
def eK (g:G) (t:TE):List Int→Int→List Int→Option (List Int)
 |[],v1,w1=>
  some w1
 |z1::ls1,v1,w1=>
  gd (((0:Int)≤v1∧v1<(((g.dlen (t.d_I64 w1)):Nat):Int)))<|
  gt w1 (g.nat v1) fun x1=>
  lP (List.set w1 (g.nat v1) z1) fun(l2:List Int)=>
  eK g t ls1 (g.wrap .i64 (g.add v1 1)) l2
def lV (g:G) (t:TE) (a0:List Int):Option (List Int):=
 gd (((0:Int)≤(g.llen (t.r_I64 a0))∧8* (g.llen (t.r_I64 a0))≤70368744177664∧(g.llen (t.r_I64 a0))≤4611686018427387904))<|
 lP (List.replicate (g.nat (g.llen (t.r_I64 a0))) 0) fun(l1:List Int)=>
 cl (eK g t a0 0 l1) fun y1=>
 some y1
theorem yv {g:G} {t:TE} {a0:List Int} {r:List Int} (hg:g=G.real) (ht:t=TE.real) (h:lV g t a0=some r):Fn Tryz.prog 65 [.c (.s 1 (t.r_I64 a0))] (.c (.o 1 (t.d_I64 r))):=by
 obtain⟨X,hX⟩:=aE (.c (.o 1 (t.d_I64 r)):X);rw[←hX];refine au (rvs:=rv65) (j:=ir65) Tryz.func65 rfl (by kernel_rfl) (nb rfl) (by kernel_rfl) ae ?_;intro g2 F hg2 hF;obtain rfl:g2=g:=hg2.unique.trans hg.symm;clear hg2;obtain⟨wrap,lt,_,_,_,_,_,_,_,_,_,_,_,add,_,_,_,_,_,_,_,llen,_,_,dlen⟩:=g2;obtain⟨_,_,r_I64,d_I64⟩:=t
 unfold lV at h;try dsimp only at h
 cbv;obtain⟨hc2,h⟩:=ah h;refine AStep.mk (Ca hc2) ?_;cbv;obtain⟨l1,hl1,h⟩:=ak h;try dsimp only at h
 refine ANew.mk (d_I64 l1) (dlen (d_I64 l1)) (by rw[←hl1];exact Ck hg ht _ 0) (by rw[←hl1];exact Aw hg ht _ 0) ?_;cbv;obtain⟨o1,ho1,h⟩:=ac h;try dsimp only at h
 try rw[hg] at ho1
 try rw[ht] at ho1
 refine ABL.mk {p:Nat×Int×List Int//p.1≤a0.length∧p.2.1=((p.1:Nat):Int)∧eK G.real TE.real (List.drop p.1 a0) p.2.1 p.2.2=some o1} (fun⟨⟨k1,v1,w1⟩,_⟩=>({sl:=[(0,.c (.r (.s 1 (r_I64 a0)))),(3,.c (.f 0 1 0 (dlen (d_I64 w1)))),(4,.c (.r (.v (.int .i64 v1))))],tab:=[(0,some (.arr 1 (d_I64 w1)))]}:St)) 1 (fun p=>a0.length-p.1.1) ⟨(0,0,l1),Nat.zero_le _,rfl,ho1⟩ (List Int) (fun y1=>({sl:=[(3,.c (.f 0 1 0 (dlen (d_I64 y1))))],tab:=[(0,some (.arr 1 (d_I64 y1)))]}:St)) 1 (fun y=>o1=y) ?_ ?_ ?_
 ·refine Wk.of [(0,some 48)] rfl rfl ?_ ?_
  ·cbv;all_goals exact⟨⟨_,rfl,rfl⟩,⟨_,rfl,rfl⟩,⟨_,rfl,rfl⟩,trivial⟩
  cbv;all_goals exact⟨⟨_,rfl,rfl⟩,trivial⟩
 ·rintro⟨⟨k1,v1,w1⟩,hk1,hi1,h_1⟩ hq1;have hm1:=(hq1.1 0 _ _ rfl);try dsimp only at hk1 hi1 h_1
  clear hq1;cbv
  by_cases hc1_:k1<a0.length
  ·have hb1:lt v1 (llen (r_I64 a0))=true:=eV hg ht hi1 hc1_;have hs1:=ib hg ht hi1 hc1_ hm1;obtain⟨z1,hz1⟩:=aF hc1_;rw[aw hz1] at h_1;rw[eK] at h_1;try rw[←hg] at h_1
   try rw[←ht] at h_1
   try dsimp only at h_1
   rw[hb1];cbv;refine AStep.mk (e7 hi1) ?_;cbv;refine AGet.mk _ (fC hg ht hi1 hz1) ?_;cbv;obtain⟨hc1,h_1⟩:=ah h_1;refine AStep.mk hc1 ?_;cbv;obtain⟨x1,hx1,h_1⟩:=aB h_1;try dsimp only at h_1
   refine AGet.mk _ (bD hg ht hx1) ?_;cbv;obtain⟨l2,hl2,h_1⟩:=ak h_1;try dsimp only at h_1
   refine ANew.mk (d_I64 l2) _ (by rw[←hl2];exact jI hg ht _ _ z1) rfl ?_;have hnl2:(dlen (d_I64 w1))=(d_I64 l2).length:=(by rw[←hl2,ic ht];exact(ao hg ht _));cbv;try rw[hg] at h_1
   try rw[ht] at h_1
   refine⟨⟨(k1+1,(wrap .i64 (add v1 1)),l2),hc1_,hs1,h_1⟩,Wk.of [(0,some 0)] rfl rfl ?_ ?_,aO hc1_⟩
   ·cbv;all_goals try rw[show(dlen (d_I64 w1))=(dlen (d_I64 l2)) from(hnl2).trans (ao hg ht _).symm]
    all_goals exact⟨⟨_,rfl,rfl⟩,⟨_,rfl,rfl⟩,⟨_,rfl,rfl⟩,trivial⟩
   cbv;all_goals try rw[show(dlen (d_I64 w1))=(dlen (d_I64 l2)) from(hnl2).trans (ao hg ht _).symm]
   all_goals exact⟨⟨_,rfl,rfl⟩,trivial⟩
  have hb1:lt v1 (llen (r_I64 a0))=false:=ej hg ht hi1 hc1_;rw[List.drop_of_length_le (Nat.le_of_not_lt hc1_)] at h_1;rw[eK] at h_1;try rw[←hg] at h_1
  try rw[←ht] at h_1
  try dsimp only at h_1
  rw[hb1];cbv;refine⟨w1,Wk.of [(0,some 0)] rfl rfl ?_ ?_,(Option.some.inj h_1).symm⟩
  ·cbv;all_goals exact⟨⟨_,rfl,rfl⟩,trivial⟩
  cbv;all_goals exact⟨⟨_,rfl,rfl⟩,trivial⟩
 rintro y1 hy1;replace hy1:=hy1.symm;subst hy1;try dsimp only[lr,lrL,lrp,aP] at h
 cbv;obtain rfl:=Option.some.inj h;exact ARet.mk ⟨rfl,(ao hg ht _)⟩ hX.symm
def ir18:J:=js [jq 1 (.box 0),jq 2 (.alloc [.n 6,.n 1,.r (.v (.int .i64 0))])] [1,2] (js [jq 3 (.alloc [.n 6,.n 1,.r (.v (.int .i64 0))])] [1,2,3] (js [jf 4 0 1,jk 5 4,jc 6 64 [5],jf 7 0 3,jp (.st 1 7 6)] [1,2,3] (js [jf 8 1 1,jk 9 8,jc 10 65 [9],jf 11 1 3,jp (.st 1 11 10)] [1,2,3] (js [jf 12 2 1,jk 13 12,jf 14 2 3,jp (.st 1 14 13)] [2,3] (js [jl 15 3 3,jp (.st 3 2 15)] [2] .ret)))))
def rv18:List RV:=[.c 2 true 3]
def cD (g:G) (t:TE) (a0:Network):Option Network:=
 cl (mq g t a0.Legs) fun x1=>
 cl (lV g t a0.Off) fun x2=>
 some (Network.mk x1 x2 a0.Change)
theorem du {g:G} {t:TE} {a0:Network} {r:Network} (hg:g=G.real) (ht:t=TE.real) (h:cD g t a0=some r):Fn Tryz.prog 18 [.g (Network.rs t a0)] (.g (Network.ds t r)):=by
 obtain⟨X,hX⟩:=aE (.g (Network.ds t r):X);rw[←hX];refine au (rvs:=rv18) (j:=ir18) Tryz.func18 rfl (by kernel_rfl) (nb rfl) (by kernel_rfl) ae ?_;intro g2 F hg2 hF;obtain rfl:g2=g:=hg2.unique.trans hg.symm;clear hg2;obtain⟨_⟩:=g2;obtain⟨_⟩:=t
 obtain⟨a0_Legs,a0_Off,a0_Change⟩:=a0;unfold cD at h;try dsimp only at h
 cbv;obtain⟨x1,hx1,h⟩:=ac h;try dsimp only at h
 refine ACall.mk _ _ rfl (hF _ _ _ (y9 hg ht hx1)) (.inl rfl) (nb rfl) ?_;cbv;obtain⟨x2,hx2,h⟩:=ac h;try dsimp only at h
 refine ACall.mk _ _ rfl (hF _ _ _ (yv hg ht hx2)) (.inl rfl) (nb rfl) ?_;cbv;obtain rfl:=Option.some.inj h;exact ARet.mk ⟨⟨rfl,(bN hg ht _)⟩,⟨rfl,(ao hg ht _)⟩⟩ hX.symm
def ir45:J:=js [jq 1 (.box 0),jq 2 (.alloc [.r (.v (.int .i64 0)),.r (.v (.int .i64 0))])] [1,2] (js [jq 3 (.alloc [.r (.v (.int .i64 0)),.r (.v (.int .i64 0))])] [1,2,3] (js [jf 4 0 1,jk 5 4,jf 6 0 3,jp (.st 1 6 5)] [1,2,3] (js [jf 7 1 1,jk 8 7,jf 9 1 3,jp (.st 1 9 8)] [2,3] (js [jl 10 2 3,jp (.st 2 2 10)] [2] .ret))))
def rv45:List RV:=[.c 2 true 2]
def n9 (g:G) (t:TE) (a0:Trip):Trip:=
 a0
theorem yp {g:G} {t:TE} {a0:Trip} {r:Trip} (hg:g=G.real) (ht:t=TE.real) (h:n9 g t a0=r):Fn Tryz.prog 45 [.g (Trip.rs t a0)] (.g (Trip.ds t r)):=by
 obtain⟨X,hX⟩:=aE (.g (Trip.ds t r):X);rw[←hX];refine au (rvs:=rv45) (j:=ir45) Tryz.func45 rfl (by kernel_rfl) (nb rfl) (by kernel_rfl) ae ?_;intro g2 F hg2 hF;obtain rfl:g2=g:=hg2.unique.trans hg.symm;clear hg2;obtain⟨_⟩:=g2;obtain⟨_⟩:=t
 obtain⟨a0_Leg,a0_Day⟩:=a0;unfold n9 at h;try dsimp only at h
 cbv;subst h;exact ARet.mk trivial hX.symm
def ir66:J:=js [jq 1 (.box 0),jq 2 (.alloc [.r (.v (.int .i64 0)),.r (.v (.int .i64 0)),.r (.v (.int .i64 0)),.r (.v (.string .empty)),.r (.v (.int .i64 0)),.r (.v (.int .i64 0))])] [1,2] (js [jq 3 (.alloc [.r (.v (.int .i64 0)),.r (.v (.int .i64 0)),.r (.v (.int .i64 0)),.r (.v (.string .empty)),.r (.v (.int .i64 0)),.r (.v (.int .i64 0))])] [1,2,3] (js [jf 4 0 1,jk 5 4,jf 6 0 3,jp (.st 1 6 5)] [1,2,3] (js [jf 7 1 1,jk 8 7,jf 9 1 3,jp (.st 1 9 8)] [1,2,3] (js [jf 10 2 1,jk 11 10,jf 12 2 3,jp (.st 1 12 11)] [1,2,3] (js [jf 13 3 1,jk 14 13,jf 15 3 3,jp (.st 1 15 14)] [1,2,3] (js [jf 16 4 1,jl 17 2 16,jc 18 45 [17],jf 19 4 3,jp (.st 2 19 18)] [2,3] (js [jl 20 6 3,jp (.st 6 2 20)] [2] .ret)))))))
def rv66:List RV:=[.c 2 true 6]
def mf (g:G) (t:TE) (a0:Scan):Scan:=
 lP (n9 g t (Trip.mk a0.Trip.Leg a0.Trip.Day)) fun x1=>
 (Scan.mk a0.Thing a0.At a0.Kind a0.Place x1)
theorem yA {g:G} {t:TE} {a0:Scan} {r:Scan} (hg:g=G.real) (ht:t=TE.real) (h:mf g t a0=r):Fn Tryz.prog 66 [.g (Scan.rs t a0)] (.g (Scan.ds t r)):=by
 obtain⟨X,hX⟩:=aE (.g (Scan.ds t r):X);rw[←hX];refine au (rvs:=rv66) (j:=ir66) Tryz.func66 rfl (by kernel_rfl) (nb rfl) (by kernel_rfl) ae ?_;intro g2 F hg2 hF;obtain rfl:g2=g:=hg2.unique.trans hg.symm;clear hg2;obtain⟨_⟩:=g2;obtain⟨_⟩:=t
 obtain⟨a0_Thing,a0_At,a0_Kind,a0_Place,⟨a0_Trip_Leg,a0_Trip_Day⟩⟩:=a0;unfold mf at h;try dsimp only at h
 cbv;obtain⟨x1,hx1,h⟩:=ak h;obtain⟨x1_Leg,x1_Day⟩:=x1;try dsimp only at h
 refine ACall.mk _ _ rfl (hF _ _ _ (yp hg ht hx1)) (.inl rfl) (nb rfl) ?_;cbv;subst h;exact ARet.mk trivial hX.symm
def ir19:J:=js [jq 2 (.mv (.k (.c (.n 6))))] [0] (js [jm 5 0,jq 6 (.len false 5),jq 7 (.mk 6 56 [.r (.v (.int .i64 0)),.r (.v (.int .i64 0)),.r (.v (.int .i64 0)),.r (.v (.string .empty)),.r (.v (.int .i64 0)),.r (.v (.int .i64 0))] 6),jm 3 7] [0,3] (.seq (js [jm 4 (ki 0)] [0,3,4] (.bl 0 (.seq (js [jm 8 4,jm 9 0,jq 10 (.len false 9),jb 11 .lss .i 8 10] [0,3,4,11] (.cond 11 .skip (.exit 0))) (.seq (.block 1 (.reg none [jm 14 3,jm 15 4,jm 16 0,jm 17 4,ja 18 6 16 17,jl 19 6 18,jc 20 66 [19],ja 21 6 14 15,jp (.st 6 21 20)] [0,3,4])) (.reg none [jm 12 4,jb 13 .add .i 12 (ki 1),jm 4 13] [0,3,4]))))) (js [jm 22 3,jm 2 22] [2] .ret)))
def rv19:List RV:=[.t 2]
def d8 (g:G) (t:TE):List Scan→Int→List Scan→Option (List Scan)
 |[],v1,w1=>
  some w1
 |z1::ls1,v1,w1=>
  lP (mf g t (Scan.mk z1.Thing z1.At z1.Kind z1.Place (Trip.mk z1.Trip.Leg z1.Trip.Day))) fun x1=>
  gd (((0:Int)≤v1∧v1<(((g.dlen (t.d_Scan w1)):Nat):Int)))<|
  gt w1 (g.nat v1) fun x2=>
  lP (List.set w1 (g.nat v1) (Scan.mk x1.Thing x1.At x1.Kind x1.Place (Trip.mk x1.Trip.Leg x1.Trip.Day))) fun(l2:List Scan)=>
  d8 g t ls1 (g.wrap .i64 (g.add v1 1)) l2
def dO (g:G) (t:TE) (a0:List Scan):Option (List Scan):=
 gd (((0:Int)≤(g.llen (t.r_Scan a0))∧56* (g.llen (t.r_Scan a0))≤70368744177664∧(g.llen (t.r_Scan a0))≤4611686018427387904))<|
 lP (List.replicate (g.nat (g.llen (t.r_Scan a0))) (Scan.mk 0 0 0 ByteArray.empty (Trip.mk 0 0))) fun(l1:List Scan)=>
 cl (d8 g t a0 0 l1) fun y1=>
 some y1
theorem eJ {g:G} {t:TE} {a0:List Scan} {r:List Scan} (hg:g=G.real) (ht:t=TE.real) (h:dO g t a0=some r):Fn Tryz.prog 19 [.c (.s 6 (t.r_Scan a0))] (.c (.o 6 (t.d_Scan r))):=by
 obtain⟨X,hX⟩:=aE (.c (.o 6 (t.d_Scan r)):X);rw[←hX];refine au (rvs:=rv19) (j:=ir19) Tryz.func19 rfl (by kernel_rfl) (nb rfl) (by kernel_rfl) ae ?_;intro g2 F hg2 hF;obtain rfl:g2=g:=hg2.unique.trans hg.symm;clear hg2;obtain⟨wrap,lt,_,_,_,_,_,_,_,_,_,_,_,add,_,_,_,_,_,_,_,llen,_,_,dlen⟩:=g2;obtain⟨_,_,_,_,r_Scan,d_Scan⟩:=t
 unfold dO at h;try dsimp only at h
 cbv;obtain⟨hc2,h⟩:=ah h;refine AStep.mk (Ca hc2) ?_;cbv;obtain⟨l1,hl1,h⟩:=ak h;try dsimp only at h
 refine ANew.mk (d_Scan l1) (dlen (d_Scan l1)) (by rw[←hl1];exact An hg ht _ (Scan.mk 0 0 0 ByteArray.empty (Trip.mk 0 0))) (by rw[←hl1];exact yx hg ht _ (Scan.mk 0 0 0 ByteArray.empty (Trip.mk 0 0))) ?_;cbv;obtain⟨o1,ho1,h⟩:=ac h;try dsimp only at h
 try rw[hg] at ho1
 try rw[ht] at ho1
 refine ABL.mk {p:Nat×Int×List Scan//p.1≤a0.length∧p.2.1=((p.1:Nat):Int)∧d8 G.real TE.real (List.drop p.1 a0) p.2.1 p.2.2=some o1} (fun⟨⟨k1,v1,w1⟩,_⟩=>({sl:=[(0,.c (.r (.s 6 (r_Scan a0)))),(3,.c (.f 0 6 0 (dlen (d_Scan w1)))),(4,.c (.r (.v (.int .i64 v1))))],tab:=[(0,some (.arr 6 (d_Scan w1)))]}:St)) 1 (fun p=>a0.length-p.1.1) ⟨(0,0,l1),Nat.zero_le _,rfl,ho1⟩ (List Scan) (fun y1=>({sl:=[(3,.c (.f 0 6 0 (dlen (d_Scan y1))))],tab:=[(0,some (.arr 6 (d_Scan y1)))]}:St)) 1 (fun y=>o1=y) ?_ ?_ ?_
 ·refine Wk.of [(0,some 48)] rfl rfl ?_ ?_
  ·cbv;all_goals exact⟨⟨_,rfl,rfl⟩,⟨_,rfl,rfl⟩,⟨_,rfl,rfl⟩,trivial⟩
  cbv;all_goals exact⟨⟨_,rfl,rfl⟩,trivial⟩
 ·rintro⟨⟨k1,v1,w1⟩,hk1,hi1,h_1⟩ hq1;have hm1:=(hq1.1 0 _ _ rfl);try dsimp only at hk1 hi1 h_1
  clear hq1;cbv
  by_cases hc1_:k1<a0.length
  ·have hb1:lt v1 (llen (r_Scan a0))=true:=gi hg ht hi1 hc1_;have hs1:=jP hg ht hi1 hc1_ hm1;obtain⟨z1,hz1⟩:=aF hc1_;rw[aw hz1] at h_1;rw[d8] at h_1;obtain⟨z1_Thing,z1_At,z1_Kind,z1_Place,⟨z1_Trip_Leg,z1_Trip_Day⟩⟩:=z1;try rw[←hg] at h_1
   try rw[←ht] at h_1
   try dsimp only at h_1
   rw[hb1];cbv;refine AStep.mk (e7 hi1) ?_;cbv;refine AGet.mk _ (dU hg ht hi1 hz1) ?_;cbv;obtain⟨x1,hx1,h_1⟩:=ak h_1;obtain⟨x1_Thing,x1_At,x1_Kind,x1_Place,⟨x1_Trip_Leg,x1_Trip_Day⟩⟩:=x1;try dsimp only at h_1
   refine ACall.mk _ _ rfl (hF _ _ _ (yA hg ht hx1)) (.inl rfl) (nb rfl) ?_;cbv;obtain⟨hc1,h_1⟩:=ah h_1;refine AStep.mk hc1 ?_;cbv;obtain⟨x2,hx2,h_1⟩:=aB h_1;obtain⟨x2_Thing,x2_At,x2_Kind,x2_Place,⟨x2_Trip_Leg,x2_Trip_Day⟩⟩:=x2;try dsimp only at h_1
   refine AGet.mk _ (aG hg ht hx2) ?_;cbv;obtain⟨l2,hl2,h_1⟩:=ak h_1;try dsimp only at h_1
   refine ANew.mk (d_Scan l2) _ (by rw[←hl2];exact iq hg ht _ _ (Scan.mk x1_Thing x1_At x1_Kind x1_Place (Trip.mk x1_Trip_Leg x1_Trip_Day))) rfl ?_;have hnl2:(dlen (d_Scan w1))=(d_Scan l2).length:=(by rw[←hl2,gn ht];exact(aj hg ht _));cbv;try rw[hg] at h_1
   try rw[ht] at h_1
   refine⟨⟨(k1+1,(wrap .i64 (add v1 1)),l2),hc1_,hs1,h_1⟩,Wk.of [(0,some 0)] rfl rfl ?_ ?_,aO hc1_⟩
   ·cbv;all_goals try rw[show(dlen (d_Scan w1))=(dlen (d_Scan l2)) from(hnl2).trans (aj hg ht _).symm]
    all_goals exact⟨⟨_,rfl,rfl⟩,⟨_,rfl,rfl⟩,⟨_,rfl,rfl⟩,trivial⟩
   cbv;all_goals try rw[show(dlen (d_Scan w1))=(dlen (d_Scan l2)) from(hnl2).trans (aj hg ht _).symm]
   all_goals exact⟨⟨_,rfl,rfl⟩,trivial⟩
  have hb1:lt v1 (llen (r_Scan a0))=false:=fM hg ht hi1 hc1_;rw[List.drop_of_length_le (Nat.le_of_not_lt hc1_)] at h_1;rw[d8] at h_1;try rw[←hg] at h_1
  try rw[←ht] at h_1
  try dsimp only at h_1
  rw[hb1];cbv;refine⟨w1,Wk.of [(0,some 0)] rfl rfl ?_ ?_,(Option.some.inj h_1).symm⟩
  ·cbv;all_goals exact⟨⟨_,rfl,rfl⟩,trivial⟩
  cbv;all_goals exact⟨⟨_,rfl,rfl⟩,trivial⟩
 rintro y1 hy1;replace hy1:=hy1.symm;subst hy1;try dsimp only[lr,lrL,lrp,aP] at h
 cbv;obtain rfl:=Option.some.inj h;exact ARet.mk ⟨rfl,(aj hg ht _)⟩ hX.symm
def ir76:J:=js [jq 2 (.box 0),jq 3 (.box 1),jm 4 kf] [2,3] (.seq (js [jf 5 0 2,jk 6 5,jf 7 0 3,jk 8 7,jb 9 .neq .i 6 8] [2,3,9] (.cond 9 (js [jm 4 kf] [4] .ret) .skip)) (.seq (js [jf 10 1 2,jk 11 10,jf 12 1 3,jk 13 12,jb 14 .neq .i 11 13] [14] (.cond 14 (js [jm 4 kf] [4] .ret) .skip)) (js [jm 4 kt] [4] .ret)))
def rv76:List RV:=[.t 4]
def kD (g:G) (t:TE) (a0:Trip) (a1:Trip):Bool:=
 br (g.eq a0.Leg a1.Leg)
 (
  br (g.eq a0.Day a1.Day)
  (
   true)
  (
   false))
 (
  false)
theorem sS {g:G} {t:TE} {a0:Trip} {a1:Trip} {r:Bool} (hg:g=G.real) (ht:t=TE.real) (h:kD g t a0 a1=r):Fn Tryz.prog 76 [.g (Trip.rs t a0),.g (Trip.rs t a1)] (.c (.r (.v (.bool r)))):=by
 obtain⟨X,hX⟩:=aE (.c (.r (.v (.bool r))):X);rw[←hX];refine au (rvs:=rv76) (j:=ir76) Tryz.func76 rfl (by kernel_rfl) (nb rfl) (by kernel_rfl) ae ?_;intro g2 F hg2 hF;obtain rfl:g2=g:=hg2.unique.trans hg.symm;clear hg2;obtain⟨_,_,_,eq⟩:=g2;obtain⟨_⟩:=t
 obtain⟨a0_Leg,a0_Day⟩:=a0;obtain⟨a1_Leg,a1_Day⟩:=a1;unfold kD at h;try dsimp only at h
 cbv
 cases hb1:(eq a0_Leg a1_Leg)
 ·rw[aa hb1] at h;cbv;subst h;exact ARet.mk trivial hX.symm
 rw[ab hb1] at h;cbv
 cases hb2:(eq a0_Day a1_Day)
 rotate_left
 ·rw[ab hb2] at h;cbv;subst h;exact ARet.mk trivial hX.symm
 rw[aa hb2] at h;cbv;subst h;exact ARet.mk trivial hX.symm
def ir37:J:=js [jq 2 (.box 0),jq 3 (.box 1),jm 4 kf] [2,3] (.seq (js [jf 5 0 2,jk 6 5,jf 7 0 3,jk 8 7,jb 9 .neq .i 6 8] [2,3,9] (.cond 9 (js [jm 4 kf] [4] .ret) .skip)) (.seq (js [jf 10 1 2,jk 11 10,jf 12 1 3,jk 13 12,jb 14 .neq .i 11 13] [2,3,14] (.cond 14 (js [jm 4 kf] [4] .ret) .skip)) (.seq (js [jf 15 2 2,jk 16 15,jf 17 2 3,jk 18 17,jb 19 .neq .i 16 18] [2,3,19] (.cond 19 (js [jm 4 kf] [4] .ret) .skip)) (.seq (js [jf 20 3 2,jk 21 20,jf 22 3 3,jk 23 22,jb 24 .neq .s 21 23] [2,3,24] (.cond 24 (js [jm 4 kf] [4] .ret) .skip)) (.seq (js [jf 25 4 2,jl 26 2 25,jf 27 4 3,jl 28 2 27,jc 29 76 [26,28],jq 30 (.not 29)] [30] (.cond 30 (js [jm 4 kf] [4] .ret) .skip)) (js [jm 4 kt] [4] .ret))))))
def rv37:List RV:=[.t 4]
def mc (g:G) (t:TE) (a0:Scan) (a1:Scan):Bool:=
 br (g.eq a0.Thing a1.Thing)
 (
  br (g.eq a0.At a1.At)
  (
   br (g.eq a0.Kind a1.Kind)
   (
    br (g.seq a0.Place a1.Place)
    (
     lP (kD g t (Trip.mk a0.Trip.Leg a0.Trip.Day) (Trip.mk a1.Trip.Leg a1.Trip.Day)) fun x1=>
     br x1
     (
      true)
     (
      false))
    (
     false))
   (
    false))
  (
   false))
 (
  false)
theorem yj {g:G} {t:TE} {a0:Scan} {a1:Scan} {r:Bool} (hg:g=G.real) (ht:t=TE.real) (h:mc g t a0 a1=r):Fn Tryz.prog 37 [.g (Scan.rs t a0),.g (Scan.rs t a1)] (.c (.r (.v (.bool r)))):=by
 obtain⟨X,hX⟩:=aE (.c (.r (.v (.bool r))):X);rw[←hX];refine au (rvs:=rv37) (j:=ir37) Tryz.func37 rfl (by kernel_rfl) (nb rfl) (by kernel_rfl) ae ?_;intro g2 F hg2 hF;obtain rfl:g2=g:=hg2.unique.trans hg.symm;clear hg2;obtain⟨_,_,_,eq,_,_,_,_,_,_,_,_,_,_,_,_,_,seq⟩:=g2;obtain⟨_⟩:=t
 obtain⟨a0_Thing,a0_At,a0_Kind,a0_Place,⟨a0_Trip_Leg,a0_Trip_Day⟩⟩:=a0;obtain⟨a1_Thing,a1_At,a1_Kind,a1_Place,⟨a1_Trip_Leg,a1_Trip_Day⟩⟩:=a1;unfold mc at h;try dsimp only at h
 cbv
 cases hb1:(eq a0_Thing a1_Thing)
 ·rw[aa hb1] at h;cbv;subst h;exact ARet.mk trivial hX.symm
 rw[ab hb1] at h;cbv
 cases hb2:(eq a0_At a1_At)
 ·rw[aa hb2] at h;cbv;subst h;exact ARet.mk trivial hX.symm
 rw[ab hb2] at h;cbv
 cases hb3:(eq a0_Kind a1_Kind)
 ·rw[aa hb3] at h;cbv;subst h;exact ARet.mk trivial hX.symm
 rw[ab hb3] at h;cbv
 cases hb4:(seq a0_Place a1_Place)
 ·rw[aa hb4] at h;cbv;subst h;exact ARet.mk trivial hX.symm
 rw[ab hb4] at h;cbv;obtain⟨x1,hx1,h⟩:=ak h;try dsimp only at h
 refine ACall.mk _ _ rfl (hF _ _ _ (sS hg ht hx1)) (.inl rfl) (nb rfl) ?_;cbv
 cases hb5:x1
 rotate_left
 ·rw[ab hb5] at h;cbv;subst h;exact ARet.mk trivial hX.symm
 rw[aa hb5] at h;cbv;subst h;exact ARet.mk trivial hX.symm
def ir21:J:=js [jm 4 kf] [0,1] (.seq (js [jm 6 0,jq 7 (.len false 6),jm 8 1,jq 9 (.len false 8),jb 10 .neq .i 7 9] [0,1,10] (.cond 10 (js [jm 4 kf] [4] .ret) .skip)) (.seq (js [jm 5 (ki 0)] [0,1,5] (.bl 0 (.seq (js [jm 11 5,jm 12 0,jq 13 (.len false 12),jb 14 .lss .i 11 13] [0,1,5,14] (.cond 14 .skip (.exit 0))) (.seq (.block 1 (.seq (.reg (some [[],[],[0,1],[0,1,2],[],[],[4,5],[4,5,6],[0,1,2,3,4,5,6,7],[0,1,2,3,4,5,6,7,8]]) [jm 17 0,jm 18 5,ja 19 6 17 18,jl 20 6 19,jm 21 1,jm 22 5,ja 23 6 21 22,jl 24 6 23,jc 25 37 [20,24],jq 26 (.not 25)] [0,1,5,26]) (.cond 26 (js [jm 4 kf] [4] .ret) .skip))) (.reg none [jm 15 5,jb 16 .add .i 15 (ki 1),jm 5 16] [0,1,5]))))) (js [jm 4 kt] [4] .ret)))
def rv21:List RV:=[.t 4]
def eh (g:G) (t:TE) (a1:List Scan):List Scan→Int→Option (LR Bool Unit)
 |[],v1=>
  some (LR.out ())
 |z1::ls1,v1=>
  gt a1 (g.nat v1) fun x1=>
  lP (mc g t (Scan.mk z1.Thing z1.At z1.Kind z1.Place (Trip.mk z1.Trip.Leg z1.Trip.Day)) (Scan.mk x1.Thing x1.At x1.Kind x1.Place (Trip.mk x1.Trip.Leg x1.Trip.Day))) fun x2=>
  br x2
  (
   eh g t a1 ls1 (g.wrap .i64 (g.add v1 1)))
  (
   some (LR.ret false))
def ji (g:G) (t:TE) (a0:List Scan) (a1:List Scan):Option Bool:=
 br (g.eq (g.llen (t.r_Scan a0)) (g.llen (t.r_Scan a1)))
 (
  cl (eh g t a1 a0 0) fun o1=>lr o1 fun y1=>
  some true)
 (
  some false)
theorem ql {g:G} {t:TE} {a0:List Scan} {a1:List Scan} {r:Bool} (hg:g=G.real) (ht:t=TE.real) (h:ji g t a0 a1=some r):Fn Tryz.prog 21 [.c (.s 6 (t.r_Scan a0)),.c (.s 6 (t.r_Scan a1))] (.c (.r (.v (.bool r)))):=by
 obtain⟨X,hX⟩:=aE (.c (.r (.v (.bool r))):X);rw[←hX];refine au (rvs:=rv21) (j:=ir21) Tryz.func21 rfl (by kernel_rfl) (nb rfl) (by kernel_rfl) ae ?_;intro g2 F hg2 hF;obtain rfl:g2=g:=hg2.unique.trans hg.symm;clear hg2;obtain⟨wrap,lt,_,eq,_,_,_,_,_,_,_,_,_,add,_,_,_,_,_,_,_,llen⟩:=g2;obtain⟨_,_,_,_,r_Scan⟩:=t
 unfold ji at h;try dsimp only at h
 cbv
 cases hb1:(eq (llen (r_Scan a0)) (llen (r_Scan a1)))
 ·rw[aa hb1] at h;cbv;obtain rfl:=Option.some.inj h;exact ARet.mk trivial hX.symm
 rw[ab hb1] at h;cbv;obtain⟨o1,ho1,h⟩:=ac h;try dsimp only at h
 try rw[hg] at ho1
 try rw[ht] at ho1
 refine ABL.mk {p:Nat×Int//p.1≤a0.length∧p.2=((p.1:Nat):Int)∧eh G.real TE.real a1 (List.drop p.1 a0) p.2=some o1} (fun⟨⟨k1,v1⟩,_⟩=>({sl:=[(0,.c (.r (.s 6 (r_Scan a0)))),(1,.c (.r (.s 6 (r_Scan a1)))),(5,.c (.r (.v (.int .i64 v1))))],tab:=[]}:St)) 0 (fun p=>a0.length-p.1.1) ⟨(0,0),Nat.zero_le _,rfl,ho1⟩ (Unit) (fun _=>({sl:=[],tab:=[]}:St)) 0 (fun y=>o1=LR.out y) ?_ ?_ ?_
 ·refine Wk.of [] rfl rfl ?_ ?_
  ·cbv;all_goals exact⟨⟨_,rfl,rfl⟩,⟨_,rfl,rfl⟩,⟨_,rfl,rfl⟩,trivial⟩
  cbv;all_goals exact trivial
 ·rintro⟨⟨k1,v1⟩,hk1,hi1,h_1⟩ hq1;have hm1:=(hq1.1 0 _ _ rfl);try dsimp only at hk1 hi1 h_1
  clear hq1;cbv
  by_cases hc1_:k1<a0.length
  ·have hb2:lt v1 (llen (r_Scan a0))=true:=gi hg ht hi1 hc1_;have hs1:=jP hg ht hi1 hc1_ hm1;obtain⟨z1,hz1⟩:=aF hc1_;rw[aw hz1] at h_1;rw[eh] at h_1;obtain⟨z1_Thing,z1_At,z1_Kind,z1_Place,⟨z1_Trip_Leg,z1_Trip_Day⟩⟩:=z1;try rw[←hg] at h_1
   try rw[←ht] at h_1
   try dsimp only at h_1
   rw[hb2];cbv;refine AStep.mk (e7 hi1) ?_;cbv;refine AGet.mk _ (dU hg ht hi1 hz1) ?_;cbv;refine AStep.mk (e7 hi1) ?_;cbv;obtain⟨x1,hx1,h_1⟩:=aB h_1;obtain⟨x1_Thing,x1_At,x1_Kind,x1_Place,⟨x1_Trip_Leg,x1_Trip_Day⟩⟩:=x1;try dsimp only at h_1
   refine AGet.mk _ (lE hg ht hx1) ?_;cbv;obtain⟨x2,hx2,h_1⟩:=ak h_1;try dsimp only at h_1
   refine ACall.mk _ _ rfl (hF _ _ _ (yj hg ht hx2)) (.inl rfl) (nb rfl) ?_;cbv
   cases hb3:x2
   ·rw[aa hb3] at h_1;cbv;obtain rfl:=Option.some.inj h_1;try dsimp only[lr,lrL,lrp,aP] at h
    obtain rfl:=Option.some.inj h;exact ARet.mk trivial hX.symm
   rw[ab hb3] at h_1;cbv;try rw[hg] at h_1
   try rw[ht] at h_1
   refine⟨⟨(k1+1,(wrap .i64 (add v1 1))),hc1_,hs1,h_1⟩,Wk.of [] rfl rfl ?_ ?_,aO hc1_⟩
   ·cbv;all_goals exact⟨⟨_,rfl,rfl⟩,⟨_,rfl,rfl⟩,⟨_,rfl,rfl⟩,trivial⟩
   cbv;all_goals exact trivial
  have hb2:lt v1 (llen (r_Scan a0))=false:=fM hg ht hi1 hc1_;rw[List.drop_of_length_le (Nat.le_of_not_lt hc1_)] at h_1;rw[eh] at h_1;try rw[←hg] at h_1
  try rw[←ht] at h_1
  try dsimp only at h_1
  rw[hb2];cbv;refine⟨(),Wk.of [] rfl rfl ?_ ?_,(Option.some.inj h_1).symm⟩
  ·cbv;all_goals exact trivial
  cbv;all_goals exact trivial
 rintro _ hy1;replace hy1:=hy1.symm;subst hy1;try dsimp only[lr,lrL,lrp,aP] at h
 cbv;obtain rfl:=Option.some.inj h;exact ARet.mk trivial hX.symm
def ir30:J:=js [jm 4 kf] [0,1] (.seq (js [jm 6 0,jq 7 (.len false 6),jm 8 1,jq 9 (.len false 8),jb 10 .neq .i 7 9] [0,1,10] (.cond 10 (js [jm 4 kf] [4] .ret) .skip)) (.seq (js [jm 5 (ki 0)] [0,1,5] (.bl 0 (.seq (js [jm 11 5,jm 12 0,jq 13 (.len false 12),jb 14 .lss .i 11 13] [0,1,5,14] (.cond 14 .skip (.exit 0))) (.seq (.block 1 (.seq (.reg (some [[],[],[0,1],[0,1,2],[],[],[4,5],[4,5,6],[0,1,2,3,4,5,6,7]]) [jm 17 0,jm 18 5,ja 19 1 17 18,jk 20 19,jm 21 1,jm 22 5,ja 23 1 21 22,jk 24 23,jb 25 .neq .i 20 24] [0,1,5,25]) (.cond 25 (js [jm 4 kf] [4] .ret) .skip))) (.reg none [jm 15 5,jb 16 .add .i 15 (ki 1),jm 5 16] [0,1,5]))))) (js [jm 4 kt] [4] .ret)))
def rv30:List RV:=[.t 4]
def eL (g:G) (t:TE) (a1:List Int):List Int→Int→Option (LR Bool Unit)
 |[],v1=>
  some (LR.out ())
 |z1::ls1,v1=>
  gt a1 (g.nat v1) fun x1=>
  br (g.eq z1 x1)
  (
   eL g t a1 ls1 (g.wrap .i64 (g.add v1 1)))
  (
   some (LR.ret false))
def mw (g:G) (t:TE) (a0:List Int) (a1:List Int):Option Bool:=
 br (g.eq (g.llen (t.r_I64 a0)) (g.llen (t.r_I64 a1)))
 (
  cl (eL g t a1 a0 0) fun o1=>lr o1 fun y1=>
  some true)
 (
  some false)
theorem ym {g:G} {t:TE} {a0:List Int} {a1:List Int} {r:Bool} (hg:g=G.real) (ht:t=TE.real) (h:mw g t a0 a1=some r):Fn Tryz.prog 30 [.c (.s 1 (t.r_I64 a0)),.c (.s 1 (t.r_I64 a1))] (.c (.r (.v (.bool r)))):=by
 obtain⟨X,hX⟩:=aE (.c (.r (.v (.bool r))):X);rw[←hX];refine au (rvs:=rv30) (j:=ir30) Tryz.func30 rfl (by kernel_rfl) (nb rfl) (by kernel_rfl) ae ?_;intro g2 F hg2 hF;obtain rfl:g2=g:=hg2.unique.trans hg.symm;clear hg2;obtain⟨wrap,lt,_,eq,_,_,_,_,_,_,_,_,_,add,_,_,_,_,_,_,_,llen⟩:=g2;obtain⟨_,_,r_I64⟩:=t
 unfold mw at h;try dsimp only at h
 cbv
 cases hb1:(eq (llen (r_I64 a0)) (llen (r_I64 a1)))
 ·rw[aa hb1] at h;cbv;obtain rfl:=Option.some.inj h;exact ARet.mk trivial hX.symm
 rw[ab hb1] at h;cbv;obtain⟨o1,ho1,h⟩:=ac h;try dsimp only at h
 try rw[hg] at ho1
 try rw[ht] at ho1
 refine ABL.mk {p:Nat×Int//p.1≤a0.length∧p.2=((p.1:Nat):Int)∧eL G.real TE.real a1 (List.drop p.1 a0) p.2=some o1} (fun⟨⟨k1,v1⟩,_⟩=>({sl:=[(0,.c (.r (.s 1 (r_I64 a0)))),(1,.c (.r (.s 1 (r_I64 a1)))),(5,.c (.r (.v (.int .i64 v1))))],tab:=[]}:St)) 0 (fun p=>a0.length-p.1.1) ⟨(0,0),Nat.zero_le _,rfl,ho1⟩ (Unit) (fun _=>({sl:=[],tab:=[]}:St)) 0 (fun y=>o1=LR.out y) ?_ ?_ ?_
 ·refine Wk.of [] rfl rfl ?_ ?_
  ·cbv;all_goals exact⟨⟨_,rfl,rfl⟩,⟨_,rfl,rfl⟩,⟨_,rfl,rfl⟩,trivial⟩
  cbv;all_goals exact trivial
 ·rintro⟨⟨k1,v1⟩,hk1,hi1,h_1⟩ hq1;have hm1:=(hq1.1 0 _ _ rfl);try dsimp only at hk1 hi1 h_1
  clear hq1;cbv
  by_cases hc1_:k1<a0.length
  ·have hb2:lt v1 (llen (r_I64 a0))=true:=eV hg ht hi1 hc1_;have hs1:=ib hg ht hi1 hc1_ hm1;obtain⟨z1,hz1⟩:=aF hc1_;rw[aw hz1] at h_1;rw[eL] at h_1;try rw[←hg] at h_1
   try rw[←ht] at h_1
   try dsimp only at h_1
   rw[hb2];cbv;refine AStep.mk (e7 hi1) ?_;cbv;refine AGet.mk _ (fC hg ht hi1 hz1) ?_;cbv;refine AStep.mk (e7 hi1) ?_;cbv;obtain⟨x1,hx1,h_1⟩:=aB h_1;try dsimp only at h_1
   refine AGet.mk _ (jz hg ht hx1) ?_;cbv
   cases hb3:(eq z1 x1)
   ·rw[aa hb3] at h_1;cbv;obtain rfl:=Option.some.inj h_1;try dsimp only[lr,lrL,lrp,aP] at h
    obtain rfl:=Option.some.inj h;exact ARet.mk trivial hX.symm
   rw[ab hb3] at h_1;cbv;try rw[hg] at h_1
   try rw[ht] at h_1
   refine⟨⟨(k1+1,(wrap .i64 (add v1 1))),hc1_,hs1,h_1⟩,Wk.of [] rfl rfl ?_ ?_,aO hc1_⟩
   ·cbv;all_goals exact⟨⟨_,rfl,rfl⟩,⟨_,rfl,rfl⟩,⟨_,rfl,rfl⟩,trivial⟩
   cbv;all_goals exact trivial
  have hb2:lt v1 (llen (r_I64 a0))=false:=ej hg ht hi1 hc1_;rw[List.drop_of_length_le (Nat.le_of_not_lt hc1_)] at h_1;rw[eL] at h_1;try rw[←hg] at h_1
  try rw[←ht] at h_1
  try dsimp only at h_1
  rw[hb2];cbv;refine⟨(),Wk.of [] rfl rfl ?_ ?_,(Option.some.inj h_1).symm⟩
  ·cbv;all_goals exact trivial
  cbv;all_goals exact trivial
 rintro _ hy1;replace hy1:=hy1.symm;subst hy1;try dsimp only[lr,lrL,lrp,aP] at h
 cbv;obtain rfl:=Option.some.inj h;exact ARet.mk trivial hX.symm
def Hw:J:=js [jq 2 (.box 0),jq 3 (.box 1),jm 4 kf] [2,3] (.seq (js [jf 5 0 2,jk 6 5,jf 7 0 3,jk 8 7,jb 9 .neq .s 6 8] [2,3,9] (.cond 9 (js [jm 4 kf] [4] .ret) .skip)) (.seq (js [jf 10 1 2,jk 11 10,jf 12 1 3,jk 13 12,jb 14 .neq .s 11 13] [2,3,14] (.cond 14 (js [jm 4 kf] [4] .ret) .skip)) (.seq (js [jf 15 2 2,jk 16 15,jf 17 2 3,jk 18 17,jb 19 .neq .i 16 18] [2,3,19] (.cond 19 (js [jm 4 kf] [4] .ret) .skip)) (.seq (js [jf 20 3 2,jk 21 20,jf 22 3 3,jk 23 22,jb 24 .neq .i 21 23] [2,3,24] (.cond 24 (js [jm 4 kf] [4] .ret) .skip)) (.seq (js [jf 25 4 2,jk 26 25,jf 27 4 3,jk 28 27,jb 29 .neq .i 26 28] [2,3,29] (.cond 29 (js [jm 4 kf] [4] .ret) .skip)) (.seq (js [jf 30 5 2,jk 31 30,jf 32 5 3,jk 33 32,jb 34 .neq .i 31 33] [34] (.cond 34 (js [jm 4 kf] [4] .ret) .skip)) (js [jm 4 kt] [4] .ret)))))))
def H3:List RV:=[.t 4]
def oS (g:G) (t:TE) (a0:Leg) (a1:Leg):Bool:=
 br (g.seq a0.From a1.From)
 (
  br (g.seq a0.To a1.To)
  (
   br (g.eq a0.Start a1.Start)
   (
    br (g.eq a0.Takes a1.Takes)
    (
     br (g.eq a0.Days a1.Days)
     (
      br (g.eq a0.Room a1.Room)
      (
       true)
      (
       false))
     (
      false))
    (
     false))
   (
    false))
  (
   false))
 (
  false)
theorem AE {g:G} {t:TE} {a0:Leg} {a1:Leg} {r:Bool} (hg:g=G.real) (ht:t=TE.real) (h:oS g t a0 a1=r):Fn Tryz.prog 114 [.g (Leg.rs t a0),.g (Leg.rs t a1)] (.c (.r (.v (.bool r)))):=by
 obtain⟨X,hX⟩:=aE (.c (.r (.v (.bool r))):X);rw[←hX];refine au (rvs:=H3) (j:=Hw) Tryz.func114 rfl (by kernel_rfl) (nb rfl) (by kernel_rfl) ae ?_;intro g2 F hg2 hF;obtain rfl:g2=g:=hg2.unique.trans hg.symm;clear hg2;obtain⟨_,_,_,eq,_,_,_,_,_,_,_,_,_,_,_,_,_,seq⟩:=g2;obtain⟨_⟩:=t
 obtain⟨a0_From,a0_To,a0_Start,a0_Takes,a0_Days,a0_Room⟩:=a0;obtain⟨a1_From,a1_To,a1_Start,a1_Takes,a1_Days,a1_Room⟩:=a1;unfold oS at h;try dsimp only at h
 cbv
 cases hb1:(seq a0_From a1_From)
 ·rw[aa hb1] at h;cbv;subst h;exact ARet.mk trivial hX.symm
 rw[ab hb1] at h;cbv
 cases hb2:(seq a0_To a1_To)
 ·rw[aa hb2] at h;cbv;subst h;exact ARet.mk trivial hX.symm
 rw[ab hb2] at h;cbv
 cases hb3:(eq a0_Start a1_Start)
 ·rw[aa hb3] at h;cbv;subst h;exact ARet.mk trivial hX.symm
 rw[ab hb3] at h;cbv
 cases hb4:(eq a0_Takes a1_Takes)
 ·rw[aa hb4] at h;cbv;subst h;exact ARet.mk trivial hX.symm
 rw[ab hb4] at h;cbv
 cases hb5:(eq a0_Days a1_Days)
 ·rw[aa hb5] at h;cbv;subst h;exact ARet.mk trivial hX.symm
 rw[ab hb5] at h;cbv
 cases hb6:(eq a0_Room a1_Room)
 rotate_left
 ·rw[ab hb6] at h;cbv;subst h;exact ARet.mk trivial hX.symm
 rw[aa hb6] at h;cbv;subst h;exact ARet.mk trivial hX.symm
def ir71:J:=js [jm 4 kf] [0,1] (.seq (js [jm 6 0,jq 7 (.len false 6),jm 8 1,jq 9 (.len false 8),jb 10 .neq .i 7 9] [0,1,10] (.cond 10 (js [jm 4 kf] [4] .ret) .skip)) (.seq (js [jm 5 (ki 0)] [0,1,5] (.bl 0 (.seq (js [jm 11 5,jm 12 0,jq 13 (.len false 12),jb 14 .lss .i 11 13] [0,1,5,14] (.cond 14 .skip (.exit 0))) (.seq (.block 1 (.seq (.reg (some [[],[],[0,1],[0,1,2],[],[],[4,5],[4,5,6],[0,1,2,3,4,5,6,7],[0,1,2,3,4,5,6,7,8]]) [jm 17 0,jm 18 5,ja 19 6 17 18,jl 20 6 19,jm 21 1,jm 22 5,ja 23 6 21 22,jl 24 6 23,jc 25 114 [20,24],jq 26 (.not 25)] [0,1,5,26]) (.cond 26 (js [jm 4 kf] [4] .ret) .skip))) (.reg none [jm 15 5,jb 16 .add .i 15 (ki 1),jm 5 16] [0,1,5]))))) (js [jm 4 kt] [4] .ret)))
def rv71:List RV:=[.t 4]
def eN (g:G) (t:TE) (a1:List Leg):List Leg→Int→Option (LR Bool Unit)
 |[],v1=>
  some (LR.out ())
 |z1::ls1,v1=>
  gt a1 (g.nat v1) fun x1=>
  lP (oS g t z1 x1) fun x2=>
  br x2
  (
   eN g t a1 ls1 (g.wrap .i64 (g.add v1 1)))
  (
   some (LR.ret false))
def mL (g:G) (t:TE) (a0:List Leg) (a1:List Leg):Option Bool:=
 br (g.eq (g.llen (t.r_Leg a0)) (g.llen (t.r_Leg a1)))
 (
  cl (eN g t a1 a0 0) fun o1=>lr o1 fun y1=>
  some true)
 (
  some false)
theorem za {g:G} {t:TE} {a0:List Leg} {a1:List Leg} {r:Bool} (hg:g=G.real) (ht:t=TE.real) (h:mL g t a0 a1=some r):Fn Tryz.prog 71 [.c (.s 6 (t.r_Leg a0)),.c (.s 6 (t.r_Leg a1))] (.c (.r (.v (.bool r)))):=by
 obtain⟨X,hX⟩:=aE (.c (.r (.v (.bool r))):X);rw[←hX];refine au (rvs:=rv71) (j:=ir71) Tryz.func71 rfl (by kernel_rfl) (nb rfl) (by kernel_rfl) ae ?_;intro g2 F hg2 hF;obtain rfl:g2=g:=hg2.unique.trans hg.symm;clear hg2;obtain⟨wrap,lt,_,eq,_,_,_,_,_,_,_,_,_,add,_,_,_,_,_,_,_,llen⟩:=g2;obtain⟨r_Leg⟩:=t
 unfold mL at h;try dsimp only at h
 cbv
 cases hb1:(eq (llen (r_Leg a0)) (llen (r_Leg a1)))
 ·rw[aa hb1] at h;cbv;obtain rfl:=Option.some.inj h;exact ARet.mk trivial hX.symm
 rw[ab hb1] at h;cbv;obtain⟨o1,ho1,h⟩:=ac h;try dsimp only at h
 try rw[hg] at ho1
 try rw[ht] at ho1
 refine ABL.mk {p:Nat×Int//p.1≤a0.length∧p.2=((p.1:Nat):Int)∧eN G.real TE.real a1 (List.drop p.1 a0) p.2=some o1} (fun⟨⟨k1,v1⟩,_⟩=>({sl:=[(0,.c (.r (.s 6 (r_Leg a0)))),(1,.c (.r (.s 6 (r_Leg a1)))),(5,.c (.r (.v (.int .i64 v1))))],tab:=[]}:St)) 0 (fun p=>a0.length-p.1.1) ⟨(0,0),Nat.zero_le _,rfl,ho1⟩ (Unit) (fun _=>({sl:=[],tab:=[]}:St)) 0 (fun y=>o1=LR.out y) ?_ ?_ ?_
 ·refine Wk.of [] rfl rfl ?_ ?_
  ·cbv;all_goals exact⟨⟨_,rfl,rfl⟩,⟨_,rfl,rfl⟩,⟨_,rfl,rfl⟩,trivial⟩
  cbv;all_goals exact trivial
 ·rintro⟨⟨k1,v1⟩,hk1,hi1,h_1⟩ hq1;have hm1:=(hq1.1 0 _ _ rfl);try dsimp only at hk1 hi1 h_1
  clear hq1;cbv
  by_cases hc1_:k1<a0.length
  ·have hb2:lt v1 (llen (r_Leg a0))=true:=cL hg ht hi1 hc1_;have hs1:=ff hg ht hi1 hc1_ hm1;obtain⟨z1,hz1⟩:=aF hc1_;rw[aw hz1] at h_1;rw[eN] at h_1;obtain⟨z1_From,z1_To,z1_Start,z1_Takes,z1_Days,z1_Room⟩:=z1;try rw[←hg] at h_1
   try rw[←ht] at h_1
   try dsimp only at h_1
   rw[hb2];cbv;refine AStep.mk (e7 hi1) ?_;cbv;refine AGet.mk _ (eU hg ht hi1 hz1) ?_;cbv;refine AStep.mk (e7 hi1) ?_;cbv;obtain⟨x1,hx1,h_1⟩:=aB h_1;obtain⟨x1_From,x1_To,x1_Start,x1_Takes,x1_Days,x1_Room⟩:=x1;try dsimp only at h_1
   refine AGet.mk _ (ax hg ht hx1) ?_;cbv;obtain⟨x2,hx2,h_1⟩:=ak h_1;try dsimp only at h_1
   refine ACall.mk _ _ rfl (hF _ _ _ (AE hg ht hx2)) (.inl rfl) (nb rfl) ?_;cbv
   cases hb3:x2
   ·rw[aa hb3] at h_1;cbv;obtain rfl:=Option.some.inj h_1;try dsimp only[lr,lrL,lrp,aP] at h
    obtain rfl:=Option.some.inj h;exact ARet.mk trivial hX.symm
   rw[ab hb3] at h_1;cbv;try rw[hg] at h_1
   try rw[ht] at h_1
   refine⟨⟨(k1+1,(wrap .i64 (add v1 1))),hc1_,hs1,h_1⟩,Wk.of [] rfl rfl ?_ ?_,aO hc1_⟩
   ·cbv;all_goals exact⟨⟨_,rfl,rfl⟩,⟨_,rfl,rfl⟩,⟨_,rfl,rfl⟩,trivial⟩
   cbv;all_goals exact trivial
  have hb2:lt v1 (llen (r_Leg a0))=false:=cg hg ht hi1 hc1_;rw[List.drop_of_length_le (Nat.le_of_not_lt hc1_)] at h_1;rw[eN] at h_1;try rw[←hg] at h_1
  try rw[←ht] at h_1
  try dsimp only at h_1
  rw[hb2];cbv;refine⟨(),Wk.of [] rfl rfl ?_ ?_,(Option.some.inj h_1).symm⟩
  ·cbv;all_goals exact trivial
  cbv;all_goals exact trivial
 rintro _ hy1;replace hy1:=hy1.symm;subst hy1;try dsimp only[lr,lrL,lrp,aP] at h
 cbv;obtain rfl:=Option.some.inj h;exact ARet.mk trivial hX.symm
def ir22:J:=js [jq 2 (.box 0),jq 3 (.box 1),jm 4 kf] [2,3] (.seq (js [jf 5 0 2,jk 6 5,jf 7 0 3,jk 8 7,jc 9 71 [6,8],jq 10 (.not 9)] [2,3,10] (.cond 10 (js [jm 4 kf] [4] .ret) .skip)) (.seq (js [jf 11 1 2,jk 12 11,jf 13 1 3,jk 14 13,jc 15 30 [12,14],jq 16 (.not 15)] [2,3,16] (.cond 16 (js [jm 4 kf] [4] .ret) .skip)) (.seq (js [jf 17 2 2,jk 18 17,jf 19 2 3,jk 20 19,jb 21 .neq .i 18 20] [21] (.cond 21 (js [jm 4 kf] [4] .ret) .skip)) (js [jm 4 kt] [4] .ret))))
def rv22:List RV:=[.t 4]
def gv (g:G) (t:TE) (a0:Network) (a1:Network):Option Bool:=
 cl (mL g t a0.Legs a1.Legs) fun x1=>
 br x1
 (
  cl (mw g t a0.Off a1.Off) fun x2=>
  br x2
  (
   br (g.eq a0.Change a1.Change)
   (
    some true)
   (
    some false))
  (
   some false))
 (
  some false)
theorem nj {g:G} {t:TE} {a0:Network} {a1:Network} {r:Bool} (hg:g=G.real) (ht:t=TE.real) (h:gv g t a0 a1=some r):Fn Tryz.prog 22 [.g (Network.rs t a0),.g (Network.rs t a1)] (.c (.r (.v (.bool r)))):=by
 obtain⟨X,hX⟩:=aE (.c (.r (.v (.bool r))):X);rw[←hX];refine au (rvs:=rv22) (j:=ir22) Tryz.func22 rfl (by kernel_rfl) (nb rfl) (by kernel_rfl) ae ?_;intro g2 F hg2 hF;obtain rfl:g2=g:=hg2.unique.trans hg.symm;clear hg2;obtain⟨_,_,_,eq⟩:=g2;obtain⟨_⟩:=t
 obtain⟨a0_Legs,a0_Off,a0_Change⟩:=a0;obtain⟨a1_Legs,a1_Off,a1_Change⟩:=a1;unfold gv at h;try dsimp only at h
 cbv;obtain⟨x1,hx1,h⟩:=ac h;try dsimp only at h
 refine ACall.mk _ _ rfl (hF _ _ _ (za hg ht hx1)) (.inl rfl) (nb rfl) ?_;cbv
 cases hb1:x1
 ·rw[aa hb1] at h;cbv;obtain rfl:=Option.some.inj h;exact ARet.mk trivial hX.symm
 rw[ab hb1] at h;cbv;obtain⟨x2,hx2,h⟩:=ac h;try dsimp only at h
 refine ACall.mk _ _ rfl (hF _ _ _ (ym hg ht hx2)) (.inl rfl) (nb rfl) ?_;cbv
 cases hb2:x2
 ·rw[aa hb2] at h;cbv;obtain rfl:=Option.some.inj h;exact ARet.mk trivial hX.symm
 rw[ab hb2] at h;cbv
 cases hb3:(eq a0_Change a1_Change)
 rotate_left
 ·rw[ab hb3] at h;cbv;obtain rfl:=Option.some.inj h;exact ARet.mk trivial hX.symm
 rw[aa hb3] at h;cbv;obtain rfl:=Option.some.inj h;exact ARet.mk trivial hX.symm
def ir31:J:=js [jm 4 (ki 0)] [0,1] (.seq (js [jm 5 (ki 0)] [0,1,5] (.bl 0 (.seq (js [jm 6 5,jm 7 0,jq 8 (.len false 7),jb 9 .lss .i 6 8] [0,1,5,9] (.cond 9 .skip (.exit 0))) (.seq (.block 1 (js [jm 12 0,jm 13 5,jm 14 1,ja 15 1 12 13,jp (.st 1 15 14)] [0,1,5] (.reg none [jm 16 1,jb 17 .add .i 16 (ki 1),jm 1 17] [0,1,5]))) (.reg none [jm 10 5,jb 11 .add .i 10 (ki 1),jm 5 11] [0,1,5]))))) (js [jm 18 1,jm 4 18] [4] .ret))
def rv31:List RV:=[.t 4]
def dn (g:G) (t:TE):Nat→List Int→Int→Int→Option ((List Int)×Int)
 |0,_,_,_=>none
 |n1+1,w1,v1,v2=>
  br (g.lt v2 (g.int (g.dlen (t.d_I64 w1))))
  (
   gd (((0:Int)≤v2∧v2<(((g.dlen (t.d_I64 w1)):Nat):Int)))<|
   gt w1 (g.nat v2) fun x1=>
   lP (List.set w1 (g.nat v2) v1) fun(l1:List Int)=>
   dn g t n1 l1 (g.wrap .i64 (g.add v1 1)) (g.wrap .i64 (g.add v2 1)))
  (
   some (w1,v1))
def jT (g:G) (t:TE) (a0:List Int) (a1:Int):Option (Int×(List Int)):=
 cl (dn g t 1000000000 a0 a1 0) fun y1=>
 gd ((y1.1.length=a0.length))<|
 some ((y1.2,y1.1))
theorem uS {g:G} {t:TE} {a0:List Int} {a1:Int} {r:Int×(List Int)} (hg:g=G.real) (ht:t=TE.real) (h:jT g t a0 a1=some r):FnM Tryz.prog 31 (.m (.o 1 (t.d_I64 a0))) [.c (.v (.int .i64 a1))] (.c (.r (.v (.int .i64 r.1)))) (.m (.o 1 (t.d_I64 r.2))):=by
 obtain⟨X,hX⟩:=aE (.c (.r (.v (.int .i64 r.1))):X);obtain⟨Y,hY⟩:=aE (.m (.o 1 (t.d_I64 r.2)):AM);rw[←hX,←hY];refine nE (rvs:=rv31) (j:=ir31) Tryz.func31 rfl (by kernel_rfl) (nb rfl) (by kernel_rfl) ae ?_;intro g2 F hg2 hF;obtain rfl:g2=g:=hg2.unique.trans hg.symm;clear hg2;obtain⟨wrap,lt,_,_,_,_,_,_,_,_,_,_,int,add,_,_,_,_,_,_,_,_,_,_,dlen⟩:=g2;obtain⟨_,_,_,d_I64⟩:=t
 unfold jT at h;try dsimp only at h
 cbv;obtain⟨o1,ho1,h⟩:=ac h;try dsimp only at h
 try rw[hg] at ho1
 try rw[ht] at ho1
 refine ABL.mk {p:Nat×(List Int)×Int×Int//dn G.real TE.real p.1 p.2.1 p.2.2.1 p.2.2.2=some o1} (fun⟨⟨n1,w1,v1,v2⟩,_⟩=>({sl:=[(0,.c (.f 0 1 0 (dlen (d_I64 w1)))),(1,.c (.r (.v (.int .i64 v1)))),(5,.c (.r (.v (.int .i64 v2))))],tab:=[(0,some (.arr 1 (d_I64 w1)))]}:St)) 1 (fun p=>p.1.1) ⟨(1000000000,a0,a1,0),ho1⟩ ((List Int)×Int) (fun⟨y1_1,y1_2⟩=>({sl:=[(1,.c (.r (.v (.int .i64 y1_2))))],tab:=[(0,some (.arr 1 (d_I64 y1_1)))]}:St)) 1 (fun y=>o1=y) ?_ ?_ ?_
 ·refine Wk.of [(0,some 0)] rfl rfl ?_ ?_
  ·cbv;all_goals exact⟨⟨_,rfl,rfl⟩,⟨_,rfl,rfl⟩,⟨_,rfl,rfl⟩,trivial⟩
  cbv;all_goals exact⟨⟨_,rfl,rfl⟩,trivial⟩
 ·rintro⟨⟨n1,w1,v1,v2⟩,h_1⟩ hq1;try dsimp only at h_1
  clear hq1;rcases n1 with _|n1
  ·rw[dn] at h_1;cases h_1
  rw[dn] at h_1;try rw[←hg] at h_1
  try rw[←ht] at h_1
  try dsimp only at h_1
  cbv
  cases hb1:(lt v2 (int (dlen (d_I64 w1))))
  ·rw[aa hb1] at h_1;cbv;refine⟨(w1,v1),Wk.of [(0,some 0)] rfl rfl ?_ ?_,(Option.some.inj h_1).symm⟩
   ·cbv;all_goals exact⟨⟨_,rfl,rfl⟩,trivial⟩
   cbv;all_goals exact⟨⟨_,rfl,rfl⟩,trivial⟩
  rw[ab hb1] at h_1;cbv;obtain⟨hc1,h_1⟩:=ah h_1;refine AStep.mk hc1 ?_;cbv;obtain⟨x1,hx1,h_1⟩:=aB h_1;try dsimp only at h_1
  refine AGet.mk _ (bD hg ht hx1) ?_;cbv;obtain⟨l1,hl1,h_1⟩:=ak h_1;try dsimp only at h_1
  refine ANew.mk (d_I64 l1) _ (by rw[←hl1];exact jI hg ht _ _ v1) rfl ?_;have hnl1:(dlen (d_I64 w1))=(d_I64 l1).length:=(by rw[←hl1,ic ht];exact(ao hg ht _));cbv;try rw[hg] at h_1
  try rw[ht] at h_1
  refine⟨⟨(n1,l1,(wrap .i64 (add v1 1)),(wrap .i64 (add v2 1))),h_1⟩,Wk.of [(0,some 0)] rfl rfl ?_ ?_,Nat.lt_succ_self _⟩
  ·cbv;all_goals try rw[show(dlen (d_I64 w1))=(dlen (d_I64 l1)) from(hnl1).trans (ao hg ht _).symm]
   all_goals exact⟨⟨_,rfl,rfl⟩,⟨_,rfl,rfl⟩,⟨_,rfl,rfl⟩,trivial⟩
  cbv;all_goals try rw[show(dlen (d_I64 w1))=(dlen (d_I64 l1)) from(hnl1).trans (ao hg ht _).symm]
  all_goals exact⟨⟨_,rfl,rfl⟩,trivial⟩
 rintro⟨y1_1,y1_2⟩ hy1;replace hy1:=hy1.symm;subst hy1;try dsimp only[lr,lrL,lrp,aP] at h
 cbv;obtain⟨hc2,h⟩:=ah h;obtain rfl:=Option.some.inj h;exact ARetM.mk ⟨rfl,(wz ht (ao hg ht _) hc2)⟩ hX.symm hY.symm
def ir73 (s_k0 s_k1 s_k2:ByteArray):J:=js [jq 2 (.mv (.k (.c (.r (.v (.string s_k0))))))] [0] (.seq (js [jm 4 0,jb 5 .leq .i 4 (ki 0)] [0,5] (.cond 5 (js [jq 2 (.mv (.k (.c (.r (.v (.string s_k1))))))] [2] .ret) .skip)) (js [jq 3 (.mv (.k (.c (.r (.v (.string s_k0))))))] [0,3] (.seq (.bl 0 (.seq (js [jm 6 0,jb 7 .gtr .i 6 (ki 0)] [0,3,7] (.cond 7 .skip (.exit 0))) (.block 1 (js [jm 8 0,jb 9 .rem .i 8 (ki 10),jb 10 .add .i (ki 48) 9,jq 11 (.cvt .u8 10),jq 12 (.bsl 1 [11]),jq 13 (.b2s 12),jm 14 3,jb 15 .add .s 13 14,jm 3 15] [0,3] (.reg none [jm 16 0,jb 17 .quo .i 16 (ki 10),jm 0 17] [0,3]))))) (js [jm 18 3,jq 19 (.bin .add .s (.k (.c (.r (.v (.string s_k2))))) 18),jm 2 19] [2] .ret))))
def rv73:List RV:=[.t 2]
def dw (g:G) (t:TE):Nat→Int→ByteArray→Option ByteArray
 |0,_,_=>none
 |n1+1,v1,v2=>
  br (g.lt 0 v1)
  (
   lP ([(g.wrap .u8 (g.wrap .i64 (g.add 48 (g.rem v1 10))))]) fun(l1:List Int)=>
   gd (((g.bstr l1).size+v2.size≤70368744177664))<|
   dw g t n1 (g.wrap .i64 (g.quo v1 10)) (g.cat (g.bstr l1) v2))
  (
   some v2)
def ek (g:G) (t:TE) (a0:Int):Option ByteArray:=
 br (g.le a0 0)
 (
  some yf)
 (
  cl (dw g t 1000000000 a0 str_k0) fun y1=>
  gd ((sX.size+y1.size≤70368744177664))<|
  some (g.cat sX y1))
theorem gV {g:G} {t:TE} {a0:Int} {r:ByteArray} (hg:g=G.real) (ht:t=TE.real) (h:ek g t a0=some r):Fn Tryz.prog 73 [.c (.v (.int .i64 a0))] (.c (.r (.v (.string r)))):=by
 obtain⟨X,hX⟩:=aE (.c (.r (.v (.string r))):X);rw[←hX];refine au (rvs:=rv73) (j:=(ir73 str_k0 yf sX)) Tryz.func73 rfl (by kernel_rfl) (nb rfl) (by kernel_rfl) ae ?_;intro g2 F hg2 hF;obtain rfl:g2=g:=hg2.unique.trans hg.symm;clear hg2;obtain⟨wrap,lt,le,_,quo,rem,_,_,_,_,_,_,_,add,_,_,cat,_,_,_,_,_,_,_,dlen,_,_,_,rd,_,_,_,_,_,_,_,_,_,_,_,_,_,_,bstr⟩:=g2;obtain⟨_,_,_,_,_,_,_,_,_,_,r_U8,d_U8⟩:=t
 unfold ek at h;try dsimp only at h
 obtain⟨s_k0,hs_k0⟩:∃s,str_k0=s:=⟨_,rfl⟩;try rw[hs_k0] at h
 rw[hs_k0];obtain⟨s_k1,hs_k1⟩:∃s,yf=s:=⟨_,rfl⟩;try rw[hs_k1] at h
 rw[hs_k1];obtain⟨s_k2,hs_k2⟩:∃s,sX=s:=⟨_,rfl⟩;try rw[hs_k2] at h
 rw[hs_k2];cbv
 cases hb1:(le a0 0)
 rotate_left
 ·rw[ab hb1] at h;cbv;obtain rfl:=Option.some.inj h;exact ARet.mk trivial hX.symm
 rw[aa hb1] at h;cbv;obtain⟨o1,ho1,h⟩:=ac h;try dsimp only at h
 try rw[hg] at ho1
 try rw[ht] at ho1
 refine ABL.mk {p:Nat×Int×ByteArray//dw G.real TE.real p.1 p.2.1 p.2.2=some o1} (fun⟨⟨n1,v1,v2⟩,_⟩=>({sl:=[(0,.c (.r (.v (.int .i64 v1)))),(3,.c (.r (.v (.string v2))))],tab:=[]}:St)) 0 (fun p=>p.1.1) ⟨(1000000000,a0,s_k0),ho1⟩ (ByteArray) (fun y1=>({sl:=[(3,.c (.r (.v (.string y1))))],tab:=[]}:St)) 0 (fun y=>o1=y) ?_ ?_ ?_
 ·refine Wk.of [] rfl rfl ?_ ?_
  ·cbv;all_goals exact⟨⟨_,rfl,rfl⟩,⟨_,rfl,rfl⟩,trivial⟩
  cbv;all_goals exact trivial
 ·rintro⟨⟨n1,v1,v2⟩,h_1⟩ hq1;try dsimp only at h_1
  clear hq1;rcases n1 with _|n1
  ·rw[dw] at h_1;cases h_1
  rw[dw] at h_1;try rw[←hg] at h_1
  try rw[←ht] at h_1
  try dsimp only at h_1
  try rw[hs_k0] at h_1
  try rw[hs_k1] at h_1
  try rw[hs_k2] at h_1
  cbv
  cases hb2:(lt 0 v1)
  ·rw[aa hb2] at h_1;cbv;refine⟨v2,Wk.of [] rfl rfl ?_ ?_,(Option.some.inj h_1).symm⟩
   ·cbv;all_goals exact⟨⟨_,rfl,rfl⟩,trivial⟩
   cbv;all_goals exact trivial
  rw[ab hb2] at h_1;cbv;refine AStep.mk (by decide) ?_;cbv;obtain⟨l1,hl1,h_1⟩:=ak h_1;try dsimp only at h_1
  refine ANew.mk (d_U8 l1) (dlen (d_U8 l1)) (by rw[←hl1];exact FN hg ht [(wrap .u8 (wrap .i64 (add 48 (rem v1 10))))]) (by rw[←hl1];exact D9 hg ht [(wrap .u8 (wrap .i64 (add 48 (rem v1 10))))]) ?_;cbv;refine AStep.mk (Eu ht (zx hg ht _)) ?_;cbv;refine AB2.mk l1 (by rw[show rd (d_U8 l1) 0 (dlen (d_U8 l1))=r_U8 l1 from Fp hg ht (zx hg ht _)];exact Fu ht _) ?_;cbv;obtain⟨hc1,h_1⟩:=ah h_1;refine AStep.mk (DG hc1) ?_;cbv;refine AStep.mk (by decide) ?_;cbv;try rw[hg] at h_1
  try rw[ht] at h_1
  refine⟨⟨(n1,(wrap .i64 (quo v1 10)),(cat (bstr l1) v2)),h_1⟩,Wk.of [] rfl rfl ?_ ?_,Nat.lt_succ_self _⟩
  ·cbv;all_goals exact⟨⟨_,rfl,rfl⟩,⟨_,rfl,rfl⟩,trivial⟩
  cbv;all_goals exact trivial
 rintro y1 hy1;replace hy1:=hy1.symm;subst hy1;try dsimp only[lr,lrL,lrp,aP] at h
 cbv;obtain⟨hc2,h⟩:=ah h;refine AStep.mk (DG hc2) ?_;cbv;obtain rfl:=Option.some.inj h;exact ARet.mk trivial hX.symm
def ir72:J:=js [jm 4 (ki 0)] [0,1] (.seq (js [jm 5 (ki 0)] [0,1,5] (.bl 0 (.seq (js [jm 6 5,jm 7 0,jq 8 (.len false 7),jb 9 .lss .i 6 8] [0,1,5,9] (.cond 9 .skip (.exit 0))) (.seq (.block 1 (js [jm 12 0,jm 13 5,jm 14 1,jc 15 73 [14],ja 16 6 12 13,jf 17 0 16,jp (.st 1 17 15)] [0,1,5] (js [jm 18 1,jb 19 .add .i 18 (ki 1),jm 1 19] [0,1,5] (js [jm 20 0,jm 21 5,jm 22 1,jc 23 73 [22],ja 24 6 20 21,jf 25 1 24,jp (.st 1 25 23)] [0,1,5] (js [jm 26 1,jb 27 .add .i 26 (ki 1),jm 1 27] [0,1,5] (js [jm 28 0,jm 29 5,jm 30 1,ja 31 6 28 29,jf 32 2 31,jp (.st 1 32 30)] [0,1,5] (js [jm 33 1,jb 34 .add .i 33 (ki 1),jm 1 34] [0,1,5] (js [jm 35 0,jm 36 5,jm 37 1,ja 38 6 35 36,jf 39 3 38,jp (.st 1 39 37)] [0,1,5] (js [jm 40 1,jb 41 .add .i 40 (ki 1),jm 1 41] [0,1,5] (js [jm 42 0,jm 43 5,jm 44 1,ja 45 6 42 43,jf 46 4 45,jp (.st 1 46 44)] [0,1,5] (js [jm 47 1,jb 48 .add .i 47 (ki 1),jm 1 48] [0,1,5] (js [jm 49 0,jm 50 5,jm 51 1,ja 52 6 49 50,jf 53 5 52,jp (.st 1 53 51)] [0,1,5] (.reg none [jm 54 1,jb 55 .add .i 54 (ki 1),jm 1 55] [0,1,5]))))))))))))) (.reg none [jm 10 5,jb 11 .add .i 10 (ki 1),jm 5 11] [0,1,5]))))) (js [jm 56 1,jm 4 56] [4] .ret))
def rv72:List RV:=[.t 4]
def dj (g:G) (t:TE):Nat→List Leg→Int→Int→Option ((List Leg)×Int)
 |0,_,_,_=>none
 |n1+1,w1,v1,v2=>
  br (g.lt v2 (g.int (g.dlen (t.d_Leg w1))))
  (
   cl (ek g t v1) fun x1=>
   gd (((0:Int)≤v2∧v2<(((g.dlen (t.d_Leg w1)):Nat):Int)))<|
   gt w1 (g.nat v2) fun x2=>
   lP (List.set w1 (g.nat v2) (Leg.mk x1 x2.To x2.Start x2.Takes x2.Days x2.Room)) fun(l1:List Leg)=>
   cl (ek g t (g.wrap .i64 (g.add v1 1))) fun x3=>
   gd (((0:Int)≤v2∧v2<(((g.dlen (t.d_Leg w1)):Nat):Int)))<|
   gt l1 (g.nat v2) fun x4=>
   lP (List.set l1 (g.nat v2) (Leg.mk x4.From x3 x4.Start x4.Takes x4.Days x4.Room)) fun(l2:List Leg)=>
   gd (((0:Int)≤v2∧v2<(((g.dlen (t.d_Leg w1)):Nat):Int)))<|
   gt l2 (g.nat v2) fun x5=>
   lP (List.set l2 (g.nat v2) (Leg.mk x5.From x5.To (g.wrap .i64 (g.add (g.wrap .i64 (g.add v1 1)) 1)) x5.Takes x5.Days x5.Room)) fun(l3:List Leg)=>
   gd (((0:Int)≤v2∧v2<(((g.dlen (t.d_Leg w1)):Nat):Int)))<|
   gt l3 (g.nat v2) fun x6=>
   lP (List.set l3 (g.nat v2) (Leg.mk x6.From x6.To x6.Start (g.wrap .i64 (g.add (g.wrap .i64 (g.add (g.wrap .i64 (g.add v1 1)) 1)) 1)) x6.Days x6.Room)) fun(l4:List Leg)=>
   gd (((0:Int)≤v2∧v2<(((g.dlen (t.d_Leg w1)):Nat):Int)))<|
   gt l4 (g.nat v2) fun x7=>
   lP (List.set l4 (g.nat v2) (Leg.mk x7.From x7.To x7.Start x7.Takes (g.wrap .i64 (g.add (g.wrap .i64 (g.add (g.wrap .i64 (g.add (g.wrap .i64 (g.add v1 1)) 1)) 1)) 1)) x7.Room)) fun(l5:List Leg)=>
   gd (((0:Int)≤v2∧v2<(((g.dlen (t.d_Leg w1)):Nat):Int)))<|
   gt l5 (g.nat v2) fun x8=>
   lP (List.set l5 (g.nat v2) (Leg.mk x8.From x8.To x8.Start x8.Takes x8.Days (g.wrap .i64 (g.add (g.wrap .i64 (g.add (g.wrap .i64 (g.add (g.wrap .i64 (g.add (g.wrap .i64 (g.add v1 1)) 1)) 1)) 1)) 1)))) fun(l6:List Leg)=>
   dj g t n1 l6 (g.wrap .i64 (g.add (g.wrap .i64 (g.add (g.wrap .i64 (g.add (g.wrap .i64 (g.add (g.wrap .i64 (g.add (g.wrap .i64 (g.add v1 1)) 1)) 1)) 1)) 1)) 1)) (g.wrap .i64 (g.add v2 1)))
  (
   some (w1,v1))
def j5 (g:G) (t:TE) (a0:List Leg) (a1:Int):Option (Int×(List Leg)):=
 cl (dj g t 1000000000 a0 a1 0) fun y1=>
 gd ((y1.1.length=a0.length))<|
 some ((y1.2,y1.1))
theorem vf {g:G} {t:TE} {a0:List Leg} {a1:Int} {r:Int×(List Leg)} (hg:g=G.real) (ht:t=TE.real) (h:j5 g t a0 a1=some r):FnM Tryz.prog 72 (.m (.o 6 (t.d_Leg a0))) [.c (.v (.int .i64 a1))] (.c (.r (.v (.int .i64 r.1)))) (.m (.o 6 (t.d_Leg r.2))):=by
 obtain⟨X,hX⟩:=aE (.c (.r (.v (.int .i64 r.1))):X);obtain⟨Y,hY⟩:=aE (.m (.o 6 (t.d_Leg r.2)):AM);rw[←hX,←hY];refine nE (rvs:=rv72) (j:=ir72) Tryz.func72 rfl (by kernel_rfl) (nb rfl) (by kernel_rfl) ae ?_;intro g2 F hg2 hF;obtain rfl:g2=g:=hg2.unique.trans hg.symm;clear hg2;obtain⟨wrap,lt,_,_,_,_,_,_,_,_,_,_,int,add,_,_,_,_,_,_,_,_,_,_,dlen⟩:=g2;obtain⟨_,d_Leg⟩:=t
 unfold j5 at h;try dsimp only at h
 cbv;obtain⟨o1,ho1,h⟩:=ac h;try dsimp only at h
 try rw[hg] at ho1
 try rw[ht] at ho1
 refine ABL.mk {p:Nat×(List Leg)×Int×Int//dj G.real TE.real p.1 p.2.1 p.2.2.1 p.2.2.2=some o1} (fun⟨⟨n1,w1,v1,v2⟩,_⟩=>({sl:=[(0,.c (.f 0 6 0 (dlen (d_Leg w1)))),(1,.c (.r (.v (.int .i64 v1)))),(5,.c (.r (.v (.int .i64 v2))))],tab:=[(0,some (.arr 6 (d_Leg w1)))]}:St)) 1 (fun p=>p.1.1) ⟨(1000000000,a0,a1,0),ho1⟩ ((List Leg)×Int) (fun⟨y1_1,y1_2⟩=>({sl:=[(1,.c (.r (.v (.int .i64 y1_2))))],tab:=[(0,some (.arr 6 (d_Leg y1_1)))]}:St)) 1 (fun y=>o1=y) ?_ ?_ ?_
 ·refine Wk.of [(0,some 0)] rfl rfl ?_ ?_
  ·cbv;all_goals exact⟨⟨_,rfl,rfl⟩,⟨_,rfl,rfl⟩,⟨_,rfl,rfl⟩,trivial⟩
  cbv;all_goals exact⟨⟨_,rfl,rfl⟩,trivial⟩
 ·rintro⟨⟨n1,w1,v1,v2⟩,h_1⟩ hq1;try dsimp only at h_1
  clear hq1;rcases n1 with _|n1
  ·rw[dj] at h_1;cases h_1
  rw[dj] at h_1;try rw[←hg] at h_1
  try rw[←ht] at h_1
  try dsimp only at h_1
  cbv
  cases hb1:(lt v2 (int (dlen (d_Leg w1))))
  ·rw[aa hb1] at h_1;cbv;refine⟨(w1,v1),Wk.of [(0,some 0)] rfl rfl ?_ ?_,(Option.some.inj h_1).symm⟩
   ·cbv;all_goals exact⟨⟨_,rfl,rfl⟩,trivial⟩
   cbv;all_goals exact⟨⟨_,rfl,rfl⟩,trivial⟩
  rw[ab hb1] at h_1;cbv;obtain⟨x1,hx1,h_1⟩:=ac h_1;try dsimp only at h_1
  refine ACall.mk _ _ rfl (hF _ _ _ (gV hg ht hx1)) (.inl rfl) (nb rfl) ?_;cbv;obtain⟨hc1,h_1⟩:=ah h_1;refine AStep.mk hc1 ?_;cbv;obtain⟨x2,hx2,h_1⟩:=aB h_1;obtain⟨x2_From,x2_To,x2_Start,x2_Takes,x2_Days,x2_Room⟩:=x2;try dsimp only at h_1
  refine AGet.mk _ (hZ hg ht hx2) ?_;cbv;obtain⟨l1,hl1,h_1⟩:=ak h_1;try dsimp only at h_1
  refine ANew.mk (d_Leg l1) _ (by rw[←hl1];exact jZ hg ht _ _ (Leg.mk x1 x2_To x2_Start x2_Takes x2_Days x2_Room)) rfl ?_;have hnl1:(dlen (d_Leg w1))=(d_Leg l1).length:=(by rw[←hl1,it ht];exact(bN hg ht _));cbv;obtain⟨x3,hx3,h_1⟩:=ac h_1;try dsimp only at h_1
  refine ACall.mk _ _ rfl (hF _ _ _ (gV hg ht hx3)) (.inl rfl) (nb rfl) ?_;cbv;obtain⟨hc2,h_1⟩:=ah h_1;refine AStep.mk hc2 ?_;cbv;obtain⟨x4,hx4,h_1⟩:=aB h_1;obtain⟨x4_From,x4_To,x4_Start,x4_Takes,x4_Days,x4_Room⟩:=x4;try dsimp only at h_1
  refine AGet.mk _ (hZ hg ht hx4) ?_;cbv;obtain⟨l2,hl2,h_1⟩:=ak h_1;try dsimp only at h_1
  refine ANew.mk (d_Leg l2) _ (by rw[←hl2];exact jZ hg ht _ _ (Leg.mk x4_From x3 x4_Start x4_Takes x4_Days x4_Room)) rfl ?_;have hnl2:(dlen (d_Leg w1))=(d_Leg l2).length:=(by rw[←hl2,it ht];exact hnl1);cbv;obtain⟨hc3,h_1⟩:=ah h_1;refine AStep.mk hc3 ?_;cbv;obtain⟨x5,hx5,h_1⟩:=aB h_1;obtain⟨x5_From,x5_To,x5_Start,x5_Takes,x5_Days,x5_Room⟩:=x5;try dsimp only at h_1
  refine AGet.mk _ (hZ hg ht hx5) ?_;cbv;obtain⟨l3,hl3,h_1⟩:=ak h_1;try dsimp only at h_1
  refine ANew.mk (d_Leg l3) _ (by rw[←hl3];exact jZ hg ht _ _ (Leg.mk x5_From x5_To (wrap .i64 (add (wrap .i64 (add v1 1)) 1)) x5_Takes x5_Days x5_Room)) rfl ?_;have hnl3:(dlen (d_Leg w1))=(d_Leg l3).length:=(by rw[←hl3,it ht];exact hnl2);cbv;obtain⟨hc4,h_1⟩:=ah h_1;refine AStep.mk hc4 ?_;cbv;obtain⟨x6,hx6,h_1⟩:=aB h_1;obtain⟨x6_From,x6_To,x6_Start,x6_Takes,x6_Days,x6_Room⟩:=x6;try dsimp only at h_1
  refine AGet.mk _ (hZ hg ht hx6) ?_;cbv;obtain⟨l4,hl4,h_1⟩:=ak h_1;try dsimp only at h_1
  refine ANew.mk (d_Leg l4) _ (by rw[←hl4];exact jZ hg ht _ _ (Leg.mk x6_From x6_To x6_Start (wrap .i64 (add (wrap .i64 (add (wrap .i64 (add v1 1)) 1)) 1)) x6_Days x6_Room)) rfl ?_;have hnl4:(dlen (d_Leg w1))=(d_Leg l4).length:=(by rw[←hl4,it ht];exact hnl3);cbv;obtain⟨hc5,h_1⟩:=ah h_1;refine AStep.mk hc5 ?_;cbv;obtain⟨x7,hx7,h_1⟩:=aB h_1;obtain⟨x7_From,x7_To,x7_Start,x7_Takes,x7_Days,x7_Room⟩:=x7;try dsimp only at h_1
  refine AGet.mk _ (hZ hg ht hx7) ?_;cbv;obtain⟨l5,hl5,h_1⟩:=ak h_1;try dsimp only at h_1
  refine ANew.mk (d_Leg l5) _ (by rw[←hl5];exact jZ hg ht _ _ (Leg.mk x7_From x7_To x7_Start x7_Takes (wrap .i64 (add (wrap .i64 (add (wrap .i64 (add (wrap .i64 (add v1 1)) 1)) 1)) 1)) x7_Room)) rfl ?_;have hnl5:(dlen (d_Leg w1))=(d_Leg l5).length:=(by rw[←hl5,it ht];exact hnl4);cbv;obtain⟨hc6,h_1⟩:=ah h_1;refine AStep.mk hc6 ?_;cbv;obtain⟨x8,hx8,h_1⟩:=aB h_1;obtain⟨x8_From,x8_To,x8_Start,x8_Takes,x8_Days,x8_Room⟩:=x8;try dsimp only at h_1
  refine AGet.mk _ (hZ hg ht hx8) ?_;cbv;obtain⟨l6,hl6,h_1⟩:=ak h_1;try dsimp only at h_1
  refine ANew.mk (d_Leg l6) _ (by rw[←hl6];exact jZ hg ht _ _ (Leg.mk x8_From x8_To x8_Start x8_Takes x8_Days (wrap .i64 (add (wrap .i64 (add (wrap .i64 (add (wrap .i64 (add (wrap .i64 (add v1 1)) 1)) 1)) 1)) 1)))) rfl ?_;have hnl6:(dlen (d_Leg w1))=(d_Leg l6).length:=(by rw[←hl6,it ht];exact hnl5);cbv;try rw[hg] at h_1
  try rw[ht] at h_1
  refine⟨⟨(n1,l6,(wrap .i64 (add (wrap .i64 (add (wrap .i64 (add (wrap .i64 (add (wrap .i64 (add (wrap .i64 (add v1 1)) 1)) 1)) 1)) 1)) 1)),(wrap .i64 (add v2 1))),h_1⟩,Wk.of [(0,some 0)] rfl rfl ?_ ?_,Nat.lt_succ_self _⟩
  ·cbv;all_goals try rw[show(dlen (d_Leg w1))=(dlen (d_Leg l6)) from(hnl6).trans (bN hg ht _).symm]
   all_goals exact⟨⟨_,rfl,rfl⟩,⟨_,rfl,rfl⟩,⟨_,rfl,rfl⟩,trivial⟩
  cbv;all_goals try rw[show(dlen (d_Leg w1))=(dlen (d_Leg l6)) from(hnl6).trans (bN hg ht _).symm]
  all_goals exact⟨⟨_,rfl,rfl⟩,trivial⟩
 rintro⟨y1_1,y1_2⟩ hy1;replace hy1:=hy1.symm;subst hy1;try dsimp only[lr,lrL,lrp,aP] at h
 cbv;obtain⟨hc7,h⟩:=ah h;obtain rfl:=Option.some.inj h;exact ARetM.mk ⟨rfl,(vR ht (bN hg ht _) hc7)⟩ hX.symm hY.symm
def ir23:J:=js [jq 2 (.box 0),jm 4 (ki 0)] [1,2] (js [jf 5 0 2,jk 6 5,jm 7 1,jq 8 (.callm 72 6 [7]),jm 1 8] [1,2] (js [jf 9 1 2,jk 10 9,jm 11 1,jq 12 (.callm 31 10 [11]),jm 1 12] [1] (js [jm 13 1,jm 4 13] [4] .ret)))
def rv23:List RV:=[.t 4]
def fh (g:G) (t:TE) (a0:Network) (a1:Int):Option (Int×Network):=
 cl (j5 g t a0.Legs a1) fun x1=>
 gd ((x1.2.length=a0.Legs.length))<|
 cl (jT g t a0.Off x1.1) fun x2=>
 gd ((x2.2.length=a0.Off.length))<|
 some ((x2.1,(Network.mk x1.2 x2.2 a0.Change)))
theorem lK {g:G} {t:TE} {a0:Network} {a1:Int} {r:Int×Network} (hg:g=G.real) (ht:t=TE.real) (h:fh g t a0 a1=some r):FnM Tryz.prog 23 (.g (Network.ds t a0)) [.c (.v (.int .i64 a1))] (.c (.r (.v (.int .i64 r.1)))) (.g (Network.ds t r.2)):=by
 obtain⟨X,hX⟩:=aE (.c (.r (.v (.int .i64 r.1))):X);obtain⟨Y,hY⟩:=aE (.g (Network.ds t r.2):AM);rw[←hX,←hY];refine nE (rvs:=rv23) (j:=ir23) Tryz.func23 rfl (by kernel_rfl) (nb rfl) (by kernel_rfl) ae ?_;intro g2 F hg2 hF;obtain rfl:g2=g:=hg2.unique.trans hg.symm;clear hg2;obtain⟨_⟩:=g2;obtain⟨_⟩:=t
 obtain⟨a0_Legs,a0_Off,a0_Change⟩:=a0;unfold fh at h;try dsimp only at h
 cbv;refine AStep.mk ⟨rfl,(bN hg ht _)⟩ ?_;cbv;obtain⟨x1,hx1,h⟩:=ac h;obtain⟨x1_1,x1_2⟩:=x1;try dsimp only at h
 refine ACallM.mk _ _ _ _ rfl rfl (hF _ _ _ (vf hg ht hx1)) rfl (nb rfl) (nb rfl) ?_;cbv;obtain⟨hc1,h⟩:=ah h;refine AStep.mk ⟨rfl,(ao hg ht _)⟩ ?_;cbv;obtain⟨x2,hx2,h⟩:=ac h;obtain⟨x2_1,x2_2⟩:=x2;try dsimp only at h
 refine ACallM.mk _ _ _ _ rfl rfl (hF _ _ _ (uS hg ht hx2)) rfl (nb rfl) (nb rfl) ?_;cbv;obtain⟨hc2,h⟩:=ah h;obtain rfl:=Option.some.inj h;exact ARetM.mk ⟨⟨rfl,(vR ht (bN hg ht _) hc1)⟩,⟨rfl,(wz ht (ao hg ht _) hc2)⟩⟩ hX.symm hY.symm
def ir24:J:=js [jm 4 (ki 0)] [0,1] (.seq (js [jm 5 (ki 0)] [0,1,5] (.bl 0 (.seq (js [jm 6 5,jm 7 0,jq 8 (.len false 7),jb 9 .lss .i 6 8] [0,1,5,9] (.cond 9 .skip (.exit 0))) (.seq (.block 1 (js [jm 12 0,jm 13 5,jm 14 1,ja 15 6 12 13,jf 16 0 15,jp (.st 1 16 14)] [0,1,5] (js [jm 17 1,jb 18 .add .i 17 (ki 1),jm 1 18] [0,1,5] (js [jm 19 0,jm 20 5,jm 21 1,ja 22 6 19 20,jf 23 1 22,jp (.st 1 23 21)] [0,1,5] (js [jm 24 1,jb 25 .add .i 24 (ki 1),jm 1 25] [0,1,5] (js [jm 26 0,jm 27 5,jm 28 1,ja 29 6 26 27,jf 30 2 29,jp (.st 1 30 28)] [0,1,5] (js [jm 31 1,jb 32 .add .i 31 (ki 1),jm 1 32] [0,1,5] (js [jm 33 0,jm 34 5,jm 35 1,jc 36 73 [35],ja 37 6 33 34,jf 38 3 37,jp (.st 1 38 36)] [0,1,5] (js [jm 39 1,jb 40 .add .i 39 (ki 1),jm 1 40] [0,1,5] (js [jm 41 0,jm 42 5,jm 43 1,ja 44 6 41 42,jf 45 4 44,jf 46 0 45,jp (.st 1 46 43)] [0,1,5] (js [jm 47 1,jb 48 .add .i 47 (ki 1),jm 1 48] [0,1,5] (js [jm 49 0,jm 50 5,jm 51 1,ja 52 6 49 50,jf 53 4 52,jf 54 1 53,jp (.st 1 54 51)] [0,1,5] (.reg none [jm 55 1,jb 56 .add .i 55 (ki 1),jm 1 56] [0,1,5]))))))))))))) (.reg none [jm 10 5,jb 11 .add .i 10 (ki 1),jm 5 11] [0,1,5]))))) (js [jm 57 1,jm 4 57] [4] .ret))
def rv24:List RV:=[.t 4]
def cT (g:G) (t:TE):Nat→List Scan→Int→Int→Option ((List Scan)×Int)
 |0,_,_,_=>none
 |n1+1,w1,v1,v2=>
  br (g.lt v2 (g.int (g.dlen (t.d_Scan w1))))
  (
   gd (((0:Int)≤v2∧v2<(((g.dlen (t.d_Scan w1)):Nat):Int)))<|
   gt w1 (g.nat v2) fun x1=>
   lP (List.set w1 (g.nat v2) (Scan.mk v1 x1.At x1.Kind x1.Place (Trip.mk x1.Trip.Leg x1.Trip.Day))) fun(l1:List Scan)=>
   gd (((0:Int)≤v2∧v2<(((g.dlen (t.d_Scan w1)):Nat):Int)))<|
   gt l1 (g.nat v2) fun x2=>
   lP (List.set l1 (g.nat v2) (Scan.mk x2.Thing (g.wrap .i64 (g.add v1 1)) x2.Kind x2.Place (Trip.mk x2.Trip.Leg x2.Trip.Day))) fun(l2:List Scan)=>
   gd (((0:Int)≤v2∧v2<(((g.dlen (t.d_Scan w1)):Nat):Int)))<|
   gt l2 (g.nat v2) fun x3=>
   lP (List.set l2 (g.nat v2) (Scan.mk x3.Thing x3.At (g.wrap .i64 (g.add (g.wrap .i64 (g.add v1 1)) 1)) x3.Place (Trip.mk x3.Trip.Leg x3.Trip.Day))) fun(l3:List Scan)=>
   cl (ek g t (g.wrap .i64 (g.add (g.wrap .i64 (g.add (g.wrap .i64 (g.add v1 1)) 1)) 1))) fun x4=>
   gd (((0:Int)≤v2∧v2<(((g.dlen (t.d_Scan w1)):Nat):Int)))<|
   gt l3 (g.nat v2) fun x5=>
   lP (List.set l3 (g.nat v2) (Scan.mk x5.Thing x5.At x5.Kind x4 (Trip.mk x5.Trip.Leg x5.Trip.Day))) fun(l4:List Scan)=>
   gd (((0:Int)≤v2∧v2<(((g.dlen (t.d_Scan w1)):Nat):Int)))<|
   gt l4 (g.nat v2) fun x6=>
   lP (List.set l4 (g.nat v2) (Scan.mk x6.Thing x6.At x6.Kind x6.Place (Trip.mk (g.wrap .i64 (g.add (g.wrap .i64 (g.add (g.wrap .i64 (g.add (g.wrap .i64 (g.add v1 1)) 1)) 1)) 1)) x6.Trip.Day))) fun(l5:List Scan)=>
   gd (((0:Int)≤v2∧v2<(((g.dlen (t.d_Scan w1)):Nat):Int)))<|
   gt l5 (g.nat v2) fun x7=>
   lP (List.set l5 (g.nat v2) (Scan.mk x7.Thing x7.At x7.Kind x7.Place (Trip.mk x7.Trip.Leg (g.wrap .i64 (g.add (g.wrap .i64 (g.add (g.wrap .i64 (g.add (g.wrap .i64 (g.add (g.wrap .i64 (g.add v1 1)) 1)) 1)) 1)) 1))))) fun(l6:List Scan)=>
   cT g t n1 l6 (g.wrap .i64 (g.add (g.wrap .i64 (g.add (g.wrap .i64 (g.add (g.wrap .i64 (g.add (g.wrap .i64 (g.add (g.wrap .i64 (g.add v1 1)) 1)) 1)) 1)) 1)) 1)) (g.wrap .i64 (g.add v2 1)))
  (
   some (w1,v1))
def gE (g:G) (t:TE) (a0:List Scan) (a1:Int):Option (Int×(List Scan)):=
 cl (cT g t 1000000000 a0 a1 0) fun y1=>
 gd ((y1.1.length=a0.length))<|
 some ((y1.2,y1.1))
theorem nk {g:G} {t:TE} {a0:List Scan} {a1:Int} {r:Int×(List Scan)} (hg:g=G.real) (ht:t=TE.real) (h:gE g t a0 a1=some r):FnM Tryz.prog 24 (.m (.o 6 (t.d_Scan a0))) [.c (.v (.int .i64 a1))] (.c (.r (.v (.int .i64 r.1)))) (.m (.o 6 (t.d_Scan r.2))):=by
 obtain⟨X,hX⟩:=aE (.c (.r (.v (.int .i64 r.1))):X);obtain⟨Y,hY⟩:=aE (.m (.o 6 (t.d_Scan r.2)):AM);rw[←hX,←hY];refine nE (rvs:=rv24) (j:=ir24) Tryz.func24 rfl (by kernel_rfl) (nb rfl) (by kernel_rfl) ae ?_;intro g2 F hg2 hF;obtain rfl:g2=g:=hg2.unique.trans hg.symm;clear hg2;obtain⟨wrap,lt,_,_,_,_,_,_,_,_,_,_,int,add,_,_,_,_,_,_,_,_,_,_,dlen⟩:=g2;obtain⟨_,_,_,_,_,d_Scan⟩:=t
 unfold gE at h;try dsimp only at h
 cbv;obtain⟨o1,ho1,h⟩:=ac h;try dsimp only at h
 try rw[hg] at ho1
 try rw[ht] at ho1
 refine ABL.mk {p:Nat×(List Scan)×Int×Int//cT G.real TE.real p.1 p.2.1 p.2.2.1 p.2.2.2=some o1} (fun⟨⟨n1,w1,v1,v2⟩,_⟩=>({sl:=[(0,.c (.f 0 6 0 (dlen (d_Scan w1)))),(1,.c (.r (.v (.int .i64 v1)))),(5,.c (.r (.v (.int .i64 v2))))],tab:=[(0,some (.arr 6 (d_Scan w1)))]}:St)) 1 (fun p=>p.1.1) ⟨(1000000000,a0,a1,0),ho1⟩ ((List Scan)×Int) (fun⟨y1_1,y1_2⟩=>({sl:=[(1,.c (.r (.v (.int .i64 y1_2))))],tab:=[(0,some (.arr 6 (d_Scan y1_1)))]}:St)) 1 (fun y=>o1=y) ?_ ?_ ?_
 ·refine Wk.of [(0,some 0)] rfl rfl ?_ ?_
  ·cbv;all_goals exact⟨⟨_,rfl,rfl⟩,⟨_,rfl,rfl⟩,⟨_,rfl,rfl⟩,trivial⟩
  cbv;all_goals exact⟨⟨_,rfl,rfl⟩,trivial⟩
 ·rintro⟨⟨n1,w1,v1,v2⟩,h_1⟩ hq1;try dsimp only at h_1
  clear hq1;rcases n1 with _|n1
  ·rw[cT] at h_1;cases h_1
  rw[cT] at h_1;try rw[←hg] at h_1
  try rw[←ht] at h_1
  try dsimp only at h_1
  cbv
  cases hb1:(lt v2 (int (dlen (d_Scan w1))))
  ·rw[aa hb1] at h_1;cbv;refine⟨(w1,v1),Wk.of [(0,some 0)] rfl rfl ?_ ?_,(Option.some.inj h_1).symm⟩
   ·cbv;all_goals exact⟨⟨_,rfl,rfl⟩,trivial⟩
   cbv;all_goals exact⟨⟨_,rfl,rfl⟩,trivial⟩
  rw[ab hb1] at h_1;cbv;obtain⟨hc1,h_1⟩:=ah h_1;refine AStep.mk hc1 ?_;cbv;obtain⟨x1,hx1,h_1⟩:=aB h_1;obtain⟨x1_Thing,x1_At,x1_Kind,x1_Place,⟨x1_Trip_Leg,x1_Trip_Day⟩⟩:=x1;try dsimp only at h_1
  refine AGet.mk _ (aG hg ht hx1) ?_;cbv;obtain⟨l1,hl1,h_1⟩:=ak h_1;try dsimp only at h_1
  refine ANew.mk (d_Scan l1) _ (by rw[←hl1];exact iq hg ht _ _ (Scan.mk v1 x1_At x1_Kind x1_Place (Trip.mk x1_Trip_Leg x1_Trip_Day))) rfl ?_;have hnl1:(dlen (d_Scan w1))=(d_Scan l1).length:=(by rw[←hl1,gn ht];exact(aj hg ht _));cbv;obtain⟨hc2,h_1⟩:=ah h_1;refine AStep.mk hc2 ?_;cbv;obtain⟨x2,hx2,h_1⟩:=aB h_1;obtain⟨x2_Thing,x2_At,x2_Kind,x2_Place,⟨x2_Trip_Leg,x2_Trip_Day⟩⟩:=x2;try dsimp only at h_1
  refine AGet.mk _ (aG hg ht hx2) ?_;cbv;obtain⟨l2,hl2,h_1⟩:=ak h_1;try dsimp only at h_1
  refine ANew.mk (d_Scan l2) _ (by rw[←hl2];exact iq hg ht _ _ (Scan.mk x2_Thing (wrap .i64 (add v1 1)) x2_Kind x2_Place (Trip.mk x2_Trip_Leg x2_Trip_Day))) rfl ?_;have hnl2:(dlen (d_Scan w1))=(d_Scan l2).length:=(by rw[←hl2,gn ht];exact hnl1);cbv;obtain⟨hc3,h_1⟩:=ah h_1;refine AStep.mk hc3 ?_;cbv;obtain⟨x3,hx3,h_1⟩:=aB h_1;obtain⟨x3_Thing,x3_At,x3_Kind,x3_Place,⟨x3_Trip_Leg,x3_Trip_Day⟩⟩:=x3;try dsimp only at h_1
  refine AGet.mk _ (aG hg ht hx3) ?_;cbv;obtain⟨l3,hl3,h_1⟩:=ak h_1;try dsimp only at h_1
  refine ANew.mk (d_Scan l3) _ (by rw[←hl3];exact iq hg ht _ _ (Scan.mk x3_Thing x3_At (wrap .i64 (add (wrap .i64 (add v1 1)) 1)) x3_Place (Trip.mk x3_Trip_Leg x3_Trip_Day))) rfl ?_;have hnl3:(dlen (d_Scan w1))=(d_Scan l3).length:=(by rw[←hl3,gn ht];exact hnl2);cbv;obtain⟨x4,hx4,h_1⟩:=ac h_1;try dsimp only at h_1
  refine ACall.mk _ _ rfl (hF _ _ _ (gV hg ht hx4)) (.inl rfl) (nb rfl) ?_;cbv;obtain⟨hc4,h_1⟩:=ah h_1;refine AStep.mk hc4 ?_;cbv;obtain⟨x5,hx5,h_1⟩:=aB h_1;obtain⟨x5_Thing,x5_At,x5_Kind,x5_Place,⟨x5_Trip_Leg,x5_Trip_Day⟩⟩:=x5;try dsimp only at h_1
  refine AGet.mk _ (aG hg ht hx5) ?_;cbv;obtain⟨l4,hl4,h_1⟩:=ak h_1;try dsimp only at h_1
  refine ANew.mk (d_Scan l4) _ (by rw[←hl4];exact iq hg ht _ _ (Scan.mk x5_Thing x5_At x5_Kind x4 (Trip.mk x5_Trip_Leg x5_Trip_Day))) rfl ?_;have hnl4:(dlen (d_Scan w1))=(d_Scan l4).length:=(by rw[←hl4,gn ht];exact hnl3);cbv;obtain⟨hc5,h_1⟩:=ah h_1;refine AStep.mk hc5 ?_;cbv;obtain⟨x6,hx6,h_1⟩:=aB h_1;obtain⟨x6_Thing,x6_At,x6_Kind,x6_Place,⟨x6_Trip_Leg,x6_Trip_Day⟩⟩:=x6;try dsimp only at h_1
  refine AGet.mk _ (aG hg ht hx6) ?_;cbv;obtain⟨l5,hl5,h_1⟩:=ak h_1;try dsimp only at h_1
  refine ANew.mk (d_Scan l5) _ (by rw[←hl5];exact iq hg ht _ _ (Scan.mk x6_Thing x6_At x6_Kind x6_Place (Trip.mk (wrap .i64 (add (wrap .i64 (add (wrap .i64 (add (wrap .i64 (add v1 1)) 1)) 1)) 1)) x6_Trip_Day))) rfl ?_;have hnl5:(dlen (d_Scan w1))=(d_Scan l5).length:=(by rw[←hl5,gn ht];exact hnl4);cbv;obtain⟨hc6,h_1⟩:=ah h_1;refine AStep.mk hc6 ?_;cbv;obtain⟨x7,hx7,h_1⟩:=aB h_1;obtain⟨x7_Thing,x7_At,x7_Kind,x7_Place,⟨x7_Trip_Leg,x7_Trip_Day⟩⟩:=x7;try dsimp only at h_1
  refine AGet.mk _ (aG hg ht hx7) ?_;cbv;obtain⟨l6,hl6,h_1⟩:=ak h_1;try dsimp only at h_1
  refine ANew.mk (d_Scan l6) _ (by rw[←hl6];exact iq hg ht _ _ (Scan.mk x7_Thing x7_At x7_Kind x7_Place (Trip.mk x7_Trip_Leg (wrap .i64 (add (wrap .i64 (add (wrap .i64 (add (wrap .i64 (add (wrap .i64 (add v1 1)) 1)) 1)) 1)) 1))))) rfl ?_;have hnl6:(dlen (d_Scan w1))=(d_Scan l6).length:=(by rw[←hl6,gn ht];exact hnl5);cbv;try rw[hg] at h_1
  try rw[ht] at h_1
  refine⟨⟨(n1,l6,(wrap .i64 (add (wrap .i64 (add (wrap .i64 (add (wrap .i64 (add (wrap .i64 (add (wrap .i64 (add v1 1)) 1)) 1)) 1)) 1)) 1)),(wrap .i64 (add v2 1))),h_1⟩,Wk.of [(0,some 0)] rfl rfl ?_ ?_,Nat.lt_succ_self _⟩
  ·cbv;all_goals try rw[show(dlen (d_Scan w1))=(dlen (d_Scan l6)) from(hnl6).trans (aj hg ht _).symm]
   all_goals exact⟨⟨_,rfl,rfl⟩,⟨_,rfl,rfl⟩,⟨_,rfl,rfl⟩,trivial⟩
  cbv;all_goals try rw[show(dlen (d_Scan w1))=(dlen (d_Scan l6)) from(hnl6).trans (aj hg ht _).symm]
  all_goals exact⟨⟨_,rfl,rfl⟩,trivial⟩
 rintro⟨y1_1,y1_2⟩ hy1;replace hy1:=hy1.symm;subst hy1;try dsimp only[lr,lrL,lrp,aP] at h
 cbv;obtain⟨hc7,h⟩:=ah h;obtain rfl:=Option.some.inj h;exact ARetM.mk ⟨rfl,(pm ht (aj hg ht _) hc7)⟩ hX.symm hY.symm
def ir77:J:=js [jm 4 (ki 0)] [0,1] (.seq (js [jm 5 (ki 0)] [0,1,5] (.bl 0 (.seq (js [jm 6 5,jm 7 0,jq 8 (.len false 7),jb 9 .lss .i 6 8] [0,1,5,9] (.cond 9 .skip (.exit 0))) (.seq (.block 1 (js [jm 12 0,jm 13 5,ja 14 1 12 13,jk 15 14,jm 16 1,jb 17 .eql .s 15 16] [0,1,5,17] (.cond 17 (js [jm 18 5,jm 4 18] [4] .ret) .skip))) (.reg none [jm 10 5,jb 11 .add .i 10 (ki 1),jm 5 11] [0,1,5]))))) (js [jq 4 (.mv (.k (V.i (-1))))] [4] .ret))
def rv77:List RV:=[.t 4]
def d7 (g:G) (t:TE) (a1:ByteArray):List ByteArray→Int→LR Int Unit
 |[],v1=>
  (LR.out ())
 |z1::ls1,v1=>
  br (g.seq z1 a1)
  (
   (LR.ret v1))
  (
   d7 g t a1 ls1 (g.wrap .i64 (g.add v1 1)))
def eA (g:G) (t:TE) (a0:List ByteArray) (a1:ByteArray):Int:=
 lP (d7 g t a1 a0 0) fun o1=>lrp o1 fun y1=>
 (-1)
theorem fH {g:G} {t:TE} {a0:List ByteArray} {a1:ByteArray} {r:Int} (hg:g=G.real) (ht:t=TE.real) (h:eA g t a0 a1=r):Fn Tryz.prog 77 [.c (.s 1 (t.r_S a0)),.c (.v (.string a1))] (.c (.r (.v (.int .i64 r)))):=by
 obtain⟨X,hX⟩:=aE (.c (.r (.v (.int .i64 r))):X);rw[←hX];refine au (rvs:=rv77) (j:=ir77) Tryz.func77 rfl (by kernel_rfl) (nb rfl) (by kernel_rfl) ae ?_;intro g2 F hg2 hF;obtain rfl:g2=g:=hg2.unique.trans hg.symm;clear hg2;obtain⟨wrap,lt,_,_,_,_,_,_,_,_,_,_,_,add,_,_,_,seq,_,_,_,llen⟩:=g2;obtain⟨_,_,_,_,_,_,r_S⟩:=t
 unfold eA at h;try dsimp only at h
 cbv;obtain⟨o1,ho1,h⟩:=ak h;try dsimp only at h
 try rw[hg] at ho1
 try rw[ht] at ho1
 refine ABL.mk {p:Nat×Int//p.1≤a0.length∧p.2=((p.1:Nat):Int)∧d7 G.real TE.real a1 (List.drop p.1 a0) p.2=o1} (fun⟨⟨k1,v1⟩,_⟩=>({sl:=[(0,.c (.r (.s 1 (r_S a0)))),(1,.c (.r (.v (.string a1)))),(5,.c (.r (.v (.int .i64 v1))))],tab:=[]}:St)) 0 (fun p=>a0.length-p.1.1) ⟨(0,0),Nat.zero_le _,rfl,ho1⟩ (Unit) (fun _=>({sl:=[],tab:=[]}:St)) 0 (fun y=>o1=LR.out y) ?_ ?_ ?_
 ·refine Wk.of [] rfl rfl ?_ ?_
  ·cbv;all_goals exact⟨⟨_,rfl,rfl⟩,⟨_,rfl,rfl⟩,⟨_,rfl,rfl⟩,trivial⟩
  cbv;all_goals exact trivial
 ·rintro⟨⟨k1,v1⟩,hk1,hi1,h_1⟩ hq1;have hm1:=(hq1.1 0 _ _ rfl);try dsimp only at hk1 hi1 h_1
  clear hq1;cbv
  by_cases hc1_:k1<a0.length
  ·have hb1:lt v1 (llen (r_S a0))=true:=jS hg ht hi1 hc1_;have hs1:=oO hg ht hi1 hc1_ hm1;obtain⟨z1,hz1⟩:=aF hc1_;rw[aw hz1] at h_1;rw[d7] at h_1;try rw[←hg] at h_1
   try rw[←ht] at h_1
   try dsimp only at h_1
   rw[hb1];cbv;refine AStep.mk (e7 hi1) ?_;cbv;refine AGet.mk _ (oP hg ht hi1 hz1) ?_;cbv
   cases hb2:(seq z1 a1)
   rotate_left
   ·rw[ab hb2] at h_1;cbv;subst h_1;try dsimp only[lr,lrL,lrp,aP] at h
    subst h;exact ARet.mk trivial hX.symm
   rw[aa hb2] at h_1;cbv;try rw[hg] at h_1
   try rw[ht] at h_1
   refine⟨⟨(k1+1,(wrap .i64 (add v1 1))),hc1_,hs1,h_1⟩,Wk.of [] rfl rfl ?_ ?_,aO hc1_⟩
   ·cbv;all_goals exact⟨⟨_,rfl,rfl⟩,⟨_,rfl,rfl⟩,⟨_,rfl,rfl⟩,trivial⟩
   cbv;all_goals exact trivial
  have hb1:lt v1 (llen (r_S a0))=false:=iH hg ht hi1 hc1_;rw[List.drop_of_length_le (Nat.le_of_not_lt hc1_)] at h_1;rw[d7] at h_1;try rw[←hg] at h_1
  try rw[←ht] at h_1
  try dsimp only at h_1
  rw[hb1];cbv;refine⟨(),Wk.of [] rfl rfl ?_ ?_,h_1.symm⟩
  ·cbv;all_goals exact trivial
  cbv;all_goals exact trivial
 rintro _ hy1;replace hy1:=hy1.symm;subst hy1;try dsimp only[lr,lrL,lrp,aP] at h
 cbv;subst h;exact ARet.mk trivial hX.symm
def ir78:J:=js [jq 1 (.box 0),jq 2 (.mv (.k (.c (.n 1))))] [1] (js [jq 7 (.bsl 1 []),jm 3 7] [1,3] (.seq (js [jm 4 (ki 0)] [1,3,4] (.bl 0 (.seq (js [jm 8 4,jf 9 0 1,jk 10 9,jq 11 (.len false 10),jb 12 .mul .i (ki 2) 11,jb 13 .lss .i 8 12] [1,3,4,13] (.cond 13 .skip (.exit 0))) (.seq (.block 1 (js [jf 16 0 1,jk 17 16,jm 18 4,jb 19 .quo .i 18 (ki 2),ja 20 6 17 19,jf 21 0 20,jk 22 21,jm 5 22] [1,3,4,5] (.seq (js [jm 23 4,jb 24 .rem .i 23 (ki 2),jb 25 .eql .i 24 (ki 1)] [1,3,4,5,25] (.cond 25 (.reg none [jf 26 0 1,jk 27 26,jm 28 4,jb 29 .quo .i 28 (ki 2),ja 30 6 27 29,jf 31 1 30,jk 32 31,jm 5 32] [1,3,4,5]) .skip)) (js [jm 6 (ki 0)] [1,3,4,5,6] (.seq (.bl 2 (.seq (js [jm 33 6,jm 34 3,jq 35 (.len false 34),jb 36 .lss .i 33 35,jm 37 36,ju 38 37 (.mv 3),ju 39 37 (.mv 6),ju 40 37 (.ia 1 38 39),ju 41 37 (.ld false 1 40),ju 42 37 (.mv 5),ju 43 37 (.bin .lss .s 41 42),jq 44 (.pick 37 43 kf)] [1,3,4,5,6,44] (.cond 44 .skip (.exit 2))) (.block 3 (.reg none [jm 45 6,jb 46 .add .i 45 (ki 1),jm 6 46] [1,3,4,5,6])))) (js [jm 47 6,jm 48 3,jq 49 (.len false 48),jb 50 .eql .i 47 49,jm 51 50,jv 52 51 (.mv 3),jv 53 51 (.mv 6),jv 54 51 (.ia 1 52 53),jv 55 51 (.ld false 1 54),jv 56 51 (.mv 5),jv 57 51 (.bin .neq .s 55 56),jq 58 (.pick 51 kt 57)] [1,3,4,5,6,58] (.cond 58 (.reg (some [[],[],[],[1,2],[0,1,2,3],[],[5],[0,1,2,3,4,5,6],[],[],[8,9],[0,1,2,3,4,5,6,7,8,9,10],[0,1,2,3,4,5,6,7,8,9,10,11]]) [jq 59 (.bsl 1 []),jm 60 3,jm 61 6,jq 62 (.sl 1 60 none (some 61)),jq 63 (.app 1 16 false 59 62),jm 64 5,jq 65 (.bsl 1 [64]),jq 66 (.app 1 16 true 63 65),jm 67 3,jm 68 6,jq 69 (.sl 1 67 (some 68) none),jq 70 (.app 1 16 false 66 69),jm 3 70] [1,3,4]) .skip))))))) (.reg none [jm 14 4,jb 15 .add .i 14 (ki 1),jm 4 15] [1,3,4]))))) (js [jm 71 3,jm 2 71] [2] .ret)))
def rv78:List RV:=[.t 2]
def cS (g:G) (t:TE) (w1:List ByteArray) (x1:Leg):Nat→Int→Option Int
 |0,v3=>
  some v3
 |n3+1,v3=>
  gt w1 (g.nat v3) fun x4=>
  br (g.slt x4 x1.From)
  (
   cS g t w1 x1 n3 (g.wrap .i64 (g.add v3 1)))
  (
   some v3)
def cO (g:G) (t:TE) (w1:List ByteArray) (x1:Leg):Nat→Int→Option Int
 |0,v2=>
  some v2
 |n2+1,v2=>
  gt w1 (g.nat v2) fun x2=>
  br (g.slt x2 x1.To)
  (
   cO g t w1 x1 n2 (g.wrap .i64 (g.add v2 1)))
  (
   some v2)
def aN (g:G) (t:TE) (a0:Network):Nat→Int→List ByteArray→Option (List ByteArray)
 |0,v1,w1=>
  some w1
 |n1+1,v1,w1=>
  gd (((0:Int)≤(g.wrap .i64 (g.quo v1 2))))<|
  gt a0.Legs (g.nat (g.wrap .i64 (g.quo v1 2))) fun x1=>
  br (g.eq (g.rem v1 2) 1)
  (
   gd (((0:Int)≤(g.wrap .i64 (g.quo v1 2))))<|
   gd (((g.int (g.dlen (t.d_S w1)))≤9223372036854775807))<|
   cl (cO g t w1 x1 (aq 0 (g.int (g.dlen (t.d_S w1)))) 0) fun y1=>
   br (g.eq y1 (g.int (g.dlen (t.d_S w1))))
   (
    lP ([]) fun(l2:List ByteArray)=>
    gd (((0:Int)≤0∧0≤y1∧y1≤(((g.dlen (t.d_S w1)):Nat):Int)))<|
    gd (((g.nat 0)+(g.nsub (g.nat y1) (g.nat 0))≤w1.length))<|
    gd (((l2.length+(List.take (g.nsub (g.nat y1) (g.nat 0)) (List.drop (g.nat 0) w1)).length)*16≤70368744177664))<|
    lP (l2++(List.take (g.nsub (g.nat y1) (g.nat 0)) (List.drop (g.nat 0) w1))) fun(l3:List ByteArray)=>
    lP ([x1.To]) fun(l4:List ByteArray)=>
    gd (((l3.length+l4.length)*16≤70368744177664))<|
    lP (l3++l4) fun(l5:List ByteArray)=>
    gd (((0:Int)≤y1∧y1≤(g.int (g.dlen (t.d_S w1)))∧(g.int (g.dlen (t.d_S w1)))≤(((g.dlen (t.d_S w1)):Nat):Int)))<|
    gd (((g.nat y1)+(g.nsub (g.nat (g.int (g.dlen (t.d_S w1)))) (g.nat y1))≤w1.length))<|
    gd (((l5.length+(List.take (g.nsub (g.nat (g.int (g.dlen (t.d_S w1)))) (g.nat y1)) (List.drop (g.nat y1) w1)).length)*16≤70368744177664))<|
    lP (l5++(List.take (g.nsub (g.nat (g.int (g.dlen (t.d_S w1)))) (g.nat y1)) (List.drop (g.nat y1) w1))) fun(l6:List ByteArray)=>
    aN g t a0 n1 (g.wrap .i64 (g.add v1 1)) l6)
   (
    gd (((0:Int)≤y1∧y1<(((g.dlen (t.d_S w1)):Nat):Int)))<|
    gt w1 (g.nat y1) fun x3=>
    br (g.seq x3 x1.To)
    (
     aN g t a0 n1 (g.wrap .i64 (g.add v1 1)) w1)
    (
     lP ([]) fun(l7:List ByteArray)=>
     gd (((0:Int)≤0∧0≤y1∧y1≤(((g.dlen (t.d_S w1)):Nat):Int)))<|
     gd (((g.nat 0)+(g.nsub (g.nat y1) (g.nat 0))≤w1.length))<|
     gd (((l7.length+(List.take (g.nsub (g.nat y1) (g.nat 0)) (List.drop (g.nat 0) w1)).length)*16≤70368744177664))<|
     lP (l7++(List.take (g.nsub (g.nat y1) (g.nat 0)) (List.drop (g.nat 0) w1))) fun(l8:List ByteArray)=>
     lP ([x1.To]) fun(l9:List ByteArray)=>
     gd (((l8.length+l9.length)*16≤70368744177664))<|
     lP (l8++l9) fun(l10:List ByteArray)=>
     gd (((0:Int)≤y1∧y1≤(g.int (g.dlen (t.d_S w1)))∧(g.int (g.dlen (t.d_S w1)))≤(((g.dlen (t.d_S w1)):Nat):Int)))<|
     gd (((g.nat y1)+(g.nsub (g.nat (g.int (g.dlen (t.d_S w1)))) (g.nat y1))≤w1.length))<|
     gd (((l10.length+(List.take (g.nsub (g.nat (g.int (g.dlen (t.d_S w1)))) (g.nat y1)) (List.drop (g.nat y1) w1)).length)*16≤70368744177664))<|
     lP (l10++(List.take (g.nsub (g.nat (g.int (g.dlen (t.d_S w1)))) (g.nat y1)) (List.drop (g.nat y1) w1))) fun(l11:List ByteArray)=>
     aN g t a0 n1 (g.wrap .i64 (g.add v1 1)) l11)))
  (
   gd (((g.int (g.dlen (t.d_S w1)))≤9223372036854775807))<|
   cl (cS g t w1 x1 (aq 0 (g.int (g.dlen (t.d_S w1)))) 0) fun y2=>
   br (g.eq y2 (g.int (g.dlen (t.d_S w1))))
   (
    lP ([]) fun(l12:List ByteArray)=>
    gd (((0:Int)≤0∧0≤y2∧y2≤(((g.dlen (t.d_S w1)):Nat):Int)))<|
    gd (((g.nat 0)+(g.nsub (g.nat y2) (g.nat 0))≤w1.length))<|
    gd (((l12.length+(List.take (g.nsub (g.nat y2) (g.nat 0)) (List.drop (g.nat 0) w1)).length)*16≤70368744177664))<|
    lP (l12++(List.take (g.nsub (g.nat y2) (g.nat 0)) (List.drop (g.nat 0) w1))) fun(l13:List ByteArray)=>
    lP ([x1.From]) fun(l14:List ByteArray)=>
    gd (((l13.length+l14.length)*16≤70368744177664))<|
    lP (l13++l14) fun(l15:List ByteArray)=>
    gd (((0:Int)≤y2∧y2≤(g.int (g.dlen (t.d_S w1)))∧(g.int (g.dlen (t.d_S w1)))≤(((g.dlen (t.d_S w1)):Nat):Int)))<|
    gd (((g.nat y2)+(g.nsub (g.nat (g.int (g.dlen (t.d_S w1)))) (g.nat y2))≤w1.length))<|
    gd (((l15.length+(List.take (g.nsub (g.nat (g.int (g.dlen (t.d_S w1)))) (g.nat y2)) (List.drop (g.nat y2) w1)).length)*16≤70368744177664))<|
    lP (l15++(List.take (g.nsub (g.nat (g.int (g.dlen (t.d_S w1)))) (g.nat y2)) (List.drop (g.nat y2) w1))) fun(l16:List ByteArray)=>
    aN g t a0 n1 (g.wrap .i64 (g.add v1 1)) l16)
   (
    gd (((0:Int)≤y2∧y2<(((g.dlen (t.d_S w1)):Nat):Int)))<|
    gt w1 (g.nat y2) fun x5=>
    br (g.seq x5 x1.From)
    (
     aN g t a0 n1 (g.wrap .i64 (g.add v1 1)) w1)
    (
     lP ([]) fun(l17:List ByteArray)=>
     gd (((0:Int)≤0∧0≤y2∧y2≤(((g.dlen (t.d_S w1)):Nat):Int)))<|
     gd (((g.nat 0)+(g.nsub (g.nat y2) (g.nat 0))≤w1.length))<|
     gd (((l17.length+(List.take (g.nsub (g.nat y2) (g.nat 0)) (List.drop (g.nat 0) w1)).length)*16≤70368744177664))<|
     lP (l17++(List.take (g.nsub (g.nat y2) (g.nat 0)) (List.drop (g.nat 0) w1))) fun(l18:List ByteArray)=>
     lP ([x1.From]) fun(l19:List ByteArray)=>
     gd (((l18.length+l19.length)*16≤70368744177664))<|
     lP (l18++l19) fun(l20:List ByteArray)=>
     gd (((0:Int)≤y2∧y2≤(g.int (g.dlen (t.d_S w1)))∧(g.int (g.dlen (t.d_S w1)))≤(((g.dlen (t.d_S w1)):Nat):Int)))<|
     gd (((g.nat y2)+(g.nsub (g.nat (g.int (g.dlen (t.d_S w1)))) (g.nat y2))≤w1.length))<|
     gd (((l20.length+(List.take (g.nsub (g.nat (g.int (g.dlen (t.d_S w1)))) (g.nat y2)) (List.drop (g.nat y2) w1)).length)*16≤70368744177664))<|
     lP (l20++(List.take (g.nsub (g.nat (g.int (g.dlen (t.d_S w1)))) (g.nat y2)) (List.drop (g.nat y2) w1))) fun(l21:List ByteArray)=>
     aN g t a0 n1 (g.wrap .i64 (g.add v1 1)) l21)))
def dH (g:G) (t:TE) (a0:Network):Option (List ByteArray):=
 lP ([]) fun(l1:List ByteArray)=>
 gd (((g.wrap .i64 (g.mul 2 (g.llen (t.r_Leg a0.Legs))))≤9223372036854775807))<|
 cl (aN g t a0 (aq 0 (g.wrap .i64 (g.mul 2 (g.llen (t.r_Leg a0.Legs))))) 0 l1) fun y3=>
 some y3
theorem eT {g:G} {t:TE} {a0:Network} {r:List ByteArray} (hg:g=G.real) (ht:t=TE.real) (h:dH g t a0=some r):Fn Tryz.prog 78 [.g (Network.rs t a0)] (.c (.o 1 (t.d_S r))):=by
 obtain⟨X,hX⟩:=aE (.c (.o 1 (t.d_S r)):X);rw[←hX];refine au (rvs:=rv78) (j:=ir78) Tryz.func78 rfl (by kernel_rfl) (nb rfl) (by kernel_rfl) ae ?_;intro g2 F hg2 hF;obtain rfl:g2=g:=hg2.unique.trans hg.symm;clear hg2;obtain⟨wrap,lt,_,eq,_,rem,_,_,_,_,_,_,int,add,_,mul,_,seq,slt,_,_,llen,_,_,dlen⟩:=g2;obtain⟨r_Leg,_,r_I64,_,_,_,_,d_S⟩:=t
 obtain⟨a0_Legs,a0_Off,a0_Change⟩:=a0;unfold dH at h;try dsimp only at h
 cbv;obtain⟨l1,hl1,h⟩:=ak h;try dsimp only at h
 refine ANew.mk (d_S l1) (dlen (d_S l1)) (by rw[←hl1];exact gY hg ht []) (by rw[←hl1];exact fm hg ht []) ?_;cbv;obtain⟨hB1,h⟩:=ah h;obtain⟨o1,ho1,h⟩:=ac h;try dsimp only at h
 try rw[hg] at ho1
 try rw[ht] at ho1
 refine ABL.mk {p:Nat×Int×List ByteArray//p.1=aq p.2.1 (wrap .i64 (mul 2 (llen (r_Leg a0_Legs))))∧0≤p.2.1∧aN G.real TE.real (Network.mk a0_Legs a0_Off a0_Change) p.1 p.2.1 p.2.2=some o1} (fun⟨⟨n1,v1,w1⟩,_⟩=>({sl:=[(1,.c (.p 0 3 0 0)),(3,.c (.f 1 1 0 (dlen (d_S w1)))),(4,.c (.r (.v (.int .i64 v1))))],tab:=[(0,some (.foc 3 [] [.r (.s 6 (r_Leg a0_Legs)),.r (.s 1 (r_I64 a0_Off)),.r (.v (.int .i64 a0_Change))] [])),(1,some (.arr 1 (d_S w1)))]}:St)) 2 (fun p=>p.1.1) ⟨(aq 0 (wrap .i64 (mul 2 (llen (r_Leg a0_Legs)))),0,l1),rfl,Int.le_refl _,ho1⟩ (List ByteArray) (fun y3=>({sl:=[(3,.c (.f 0 1 0 (dlen (d_S y3))))],tab:=[(0,some (.arr 1 (d_S y3)))]}:St)) 1 (fun y=>o1=y) ?_ ?_ ?_
 ·refine Wk.of [(0,some 0),(1,some 32)] rfl rfl ?_ ?_
  ·cbv;all_goals exact⟨⟨_,rfl,rfl⟩,⟨_,rfl,rfl⟩,⟨_,rfl,rfl⟩,trivial⟩
  cbv;all_goals exact⟨⟨_,rfl,_,rfl,rfl,rfl,rfl,trivial⟩,⟨_,rfl,rfl⟩,trivial⟩
 ·rintro⟨⟨n1,v1,w1⟩,hn1,hi1,h_1⟩ hq1;try dsimp only at hn1 hi1 h_1
  clear hq1;cbv;rcases n1 with _|n1
  ·have hb1:lt v1 (wrap .i64 (mul 2 (llen (r_Leg a0_Legs))))=false:=be hg hn1;rw[aN] at h_1;try rw[←hg] at h_1
   try rw[←ht] at h_1
   try dsimp only at h_1
   rw[hb1];cbv;refine⟨w1,Wk.of [(0,some 1)] rfl rfl ?_ ?_,(Option.some.inj h_1).symm⟩
   ·cbv;all_goals exact⟨⟨_,rfl,rfl⟩,trivial⟩
   cbv;all_goals exact⟨⟨_,rfl,rfl⟩,trivial⟩
  have hb1:lt v1 (wrap .i64 (mul 2 (llen (r_Leg a0_Legs))))=true:=bF hg hn1;have hl1:=dM hn1;have hs1:=cF hg hn1 hi1 hB1 (by decide);rw[aN] at h_1;try rw[←hg] at h_1
  try rw[←ht] at h_1
  try dsimp only at h_1
  rw[hb1];cbv;refine AStep.mk (by decide) ?_;cbv;obtain⟨hc1,h_1⟩:=ah h_1;refine AStep.mk hc1 ?_;cbv;obtain⟨x1,hx1,h_1⟩:=aB h_1;obtain⟨x1_From,x1_To,x1_Start,x1_Takes,x1_Days,x1_Room⟩:=x1;try dsimp only at h_1
  refine AGet.mk _ (ax hg ht hx1) ?_;cbv;refine AStep.mk (by decide) ?_;cbv
  cases hb2:(eq (rem v1 2) 1)
  ·rw[aa hb2] at h_1;cbv;obtain⟨hB3,h_1⟩:=ah h_1;obtain⟨o3,ho3,h_1⟩:=ac h_1;try dsimp only at h_1
   try rw[hg] at ho3
   try rw[ht] at ho3
   refine ABL.mk {p:Nat×Int//p.1=aq p.2 (int (dlen (d_S w1)))∧0≤p.2∧cS G.real TE.real w1 (Leg.mk x1_From x1_To x1_Start x1_Takes x1_Days x1_Room) p.1 p.2=some o3} (fun⟨⟨n3,v3⟩,_⟩=>({sl:=[(1,.c (.p 0 3 0 0)),(3,.c (.f 1 1 0 (dlen (d_S w1)))),(4,.c (.r (.v (.int .i64 v1)))),(5,.c (.r (.v (.string x1_From)))),(6,.c (.r (.v (.int .i64 v3))))],tab:=[(0,some (.foc 3 [] [.r (.s 6 (r_Leg a0_Legs)),.r (.s 1 (r_I64 a0_Off)),.r (.v (.int .i64 a0_Change))] [])),(1,some (.arr 1 (d_S w1)))]}:St)) 2 (fun p=>p.1.1) ⟨(aq 0 (int (dlen (d_S w1))),0),rfl,Int.le_refl _,ho3⟩ (Int) (fun y2=>({sl:=[(1,.c (.p 0 3 0 0)),(3,.c (.f 1 1 0 (dlen (d_S w1)))),(4,.c (.r (.v (.int .i64 v1)))),(5,.c (.r (.v (.string x1_From)))),(6,.c (.r (.v (.int .i64 y2))))],tab:=[(0,some (.foc 3 [] [.r (.s 6 (r_Leg a0_Legs)),.r (.s 1 (r_I64 a0_Off)),.r (.v (.int .i64 a0_Change))] [])),(1,some (.arr 1 (d_S w1)))]}:St)) 2 (fun y=>o3=y) ?_ ?_ ?_
   ·refine Wk.of [(0,some 0),(1,some 1)] rfl rfl ?_ ?_
    ·cbv;all_goals exact⟨⟨_,rfl,rfl⟩,⟨_,rfl,rfl⟩,⟨_,rfl,rfl⟩,⟨_,rfl,rfl⟩,⟨_,rfl,rfl⟩,trivial⟩
    cbv;all_goals exact⟨⟨_,rfl,_,rfl,rfl,rfl,rfl,trivial⟩,⟨_,rfl,rfl⟩,trivial⟩
   ·rintro⟨⟨n3,v3⟩,hn3,hi3,h_3⟩ hq3;try dsimp only at hn3 hi3 h_3
    clear hq3;cbv;rcases n3 with _|n3
    ·have hb7:lt v3 (int (dlen (d_S w1)))=false:=be hg hn3;rw[cS] at h_3;try rw[←hg] at h_3
     try rw[←ht] at h_3
     try dsimp only at h_3
     rw[hb7];cbv;iterate 6 try(rw[hb7];cbv)
     refine⟨v3,Wk.of [(0,some 0),(1,some 1)] rfl rfl ?_ ?_,(Option.some.inj h_3).symm⟩
     ·cbv;all_goals exact⟨⟨_,rfl,rfl⟩,⟨_,rfl,rfl⟩,⟨_,rfl,rfl⟩,⟨_,rfl,rfl⟩,⟨_,rfl,rfl⟩,trivial⟩
     cbv;all_goals exact⟨⟨_,rfl,_,rfl,rfl,rfl,rfl,trivial⟩,⟨_,rfl,rfl⟩,trivial⟩
    have hb7:lt v3 (int (dlen (d_S w1)))=true:=bF hg hn3;have hl3:=dM hn3;have hs3:=cF hg hn3 hi3 hB3 (by decide);rw[cS] at h_3;try rw[←hg] at h_3
    try rw[←ht] at h_3
    try dsimp only at h_3
    rw[hb7];cbv;iterate 2 try(rw[hb7];cbv)
    refine AStep.mk (dB hg hi3 hl3) ?_;cbv;try(rw[hb7];cbv)
    obtain⟨x4,hx4,h_3⟩:=aB h_3;try dsimp only at h_3
    refine AGet.mk _ (fW hg ht hx4) ?_;cbv;iterate 3 try(rw[hb7];cbv)
    cases hb8:(slt x4 x1_From)
    ·rw[aa hb8] at h_3;cbv;refine⟨v3,Wk.of [(0,some 0),(1,some 1)] rfl rfl ?_ ?_,(Option.some.inj h_3).symm⟩
     ·cbv;all_goals exact⟨⟨_,rfl,rfl⟩,⟨_,rfl,rfl⟩,⟨_,rfl,rfl⟩,⟨_,rfl,rfl⟩,⟨_,rfl,rfl⟩,trivial⟩
     cbv;all_goals exact⟨⟨_,rfl,_,rfl,rfl,rfl,rfl,trivial⟩,⟨_,rfl,rfl⟩,trivial⟩
    rw[ab hb8] at h_3;cbv;try rw[hg] at h_3
    try rw[ht] at h_3
    refine⟨⟨(n3,(wrap .i64 (add v3 1))),hs3.1,hs3.2,h_3⟩,Wk.of [(0,some 0),(1,some 1)] rfl rfl ?_ ?_,Nat.lt_succ_self _⟩
    ·cbv;all_goals exact⟨⟨_,rfl,rfl⟩,⟨_,rfl,rfl⟩,⟨_,rfl,rfl⟩,⟨_,rfl,rfl⟩,⟨_,rfl,rfl⟩,trivial⟩
    cbv;all_goals exact⟨⟨_,rfl,_,rfl,rfl,rfl,rfl,trivial⟩,⟨_,rfl,rfl⟩,trivial⟩
   rintro y2 hy3;replace hy3:=hy3.symm;subst hy3;try dsimp only[lr,lrL,lrp,aP] at h_1
   cbv
   cases hb9:(eq y2 (int (dlen (d_S w1))))
   rotate_left
   ·rw[ab hb9] at h_1;cbv;iterate 6 try(rw[hb9];cbv)
    obtain⟨l12,hl12,h_1⟩:=ak h_1;try dsimp only at h_1
    refine ANew.mk (d_S l12) (dlen (d_S l12)) (by rw[←hl12];exact gY hg ht []) (by rw[←hl12];exact fm hg ht []) ?_;cbv;obtain⟨hc18,h_1⟩:=ah h_1;refine AStep.mk hc18 ?_;cbv;obtain⟨hc23,h_1⟩:=ah h_1;obtain⟨hc24,h_1⟩:=ah h_1;refine AStep.mk ⟨(gC hg ht hc23),(cU hg ht (al hg ht _) (dh hg ht _ _ _) hc24)⟩ ?_;cbv;obtain⟨l13,hl13,h_1⟩:=ak h_1;try dsimp only at h_1
    refine ANew.mk (d_S l13) (dlen (d_S l13)) (by rw[←hl13];exact iO hg ht (al hg ht _) (dh hg ht _ _ _)) (by rw[←hl13];exact fA hg ht (al hg ht _) (dh hg ht _ _ _)) ?_;cbv;obtain⟨l14,hl14,h_1⟩:=ak h_1;try dsimp only at h_1
    refine ANew.mk (d_S l14) (dlen (d_S l14)) (by rw[←hl14];exact gY hg ht [x1_From]) (by rw[←hl14];exact fm hg ht [x1_From]) ?_;cbv;obtain⟨hc22,h_1⟩:=ah h_1;refine AStep.mk ⟨⟨rfl,(al hg ht _)⟩,(cU hg ht (al hg ht _) rfl hc22)⟩ ?_;cbv;obtain⟨l15,hl15,h_1⟩:=ak h_1;try dsimp only at h_1
    refine ANew.mk (d_S l15) (dlen (d_S l15)) (by rw[←hl15];exact iO hg ht (al hg ht _) rfl) (by rw[←hl15];exact fA hg ht (al hg ht _) rfl) ?_;cbv;obtain⟨hc19,h_1⟩:=ah h_1;refine AStep.mk hc19 ?_;cbv;obtain⟨hc20,h_1⟩:=ah h_1;obtain⟨hc21,h_1⟩:=ah h_1;refine AStep.mk ⟨(gC hg ht hc20),(cU hg ht (al hg ht _) (dh hg ht _ _ _) hc21)⟩ ?_;cbv;obtain⟨l16,hl16,h_1⟩:=ak h_1;try dsimp only at h_1
    refine ANew.mk (d_S l16) (dlen (d_S l16)) (by rw[←hl16];exact iO hg ht (al hg ht _) (dh hg ht _ _ _)) (by rw[←hl16];exact fA hg ht (al hg ht _) (dh hg ht _ _ _)) ?_;cbv;try rw[hg] at h_1
    try rw[ht] at h_1
    refine⟨⟨(n1,(wrap .i64 (add v1 1)),l16),hs1.1,hs1.2,h_1⟩,Wk.of [(0,some 0),(1,some 370)] rfl rfl ?_ ?_,Nat.lt_succ_self _⟩
    ·cbv;all_goals exact⟨⟨_,rfl,rfl⟩,⟨_,rfl,rfl⟩,⟨_,rfl,rfl⟩,trivial⟩
    cbv;all_goals exact⟨⟨_,rfl,_,rfl,rfl,rfl,rfl,trivial⟩,⟨_,rfl,rfl⟩,trivial⟩
   rw[aa hb9] at h_1;cbv;iterate 2 try(rw[hb9];cbv)
   obtain⟨hc25,h_1⟩:=ah h_1;refine AStep.mk hc25 ?_;cbv;try(rw[hb9];cbv)
   obtain⟨x5,hx5,h_1⟩:=aB h_1;try dsimp only at h_1
   refine AGet.mk _ (fW hg ht hx5) ?_;cbv;iterate 3 try(rw[hb9];cbv)
   cases hb10:(seq x5 x1_From)
   rotate_left
   ·rw[ab hb10] at h_1;cbv;try rw[hg] at h_1
    try rw[ht] at h_1
    refine⟨⟨(n1,(wrap .i64 (add v1 1)),w1),hs1.1,hs1.2,h_1⟩,Wk.of [(0,some 0),(1,some 1)] rfl rfl ?_ ?_,Nat.lt_succ_self _⟩
    ·cbv;all_goals exact⟨⟨_,rfl,rfl⟩,⟨_,rfl,rfl⟩,⟨_,rfl,rfl⟩,trivial⟩
    cbv;all_goals exact⟨⟨_,rfl,_,rfl,rfl,rfl,rfl,trivial⟩,⟨_,rfl,rfl⟩,trivial⟩
   rw[aa hb10] at h_1;cbv;obtain⟨l17,hl17,h_1⟩:=ak h_1;try dsimp only at h_1
   refine ANew.mk (d_S l17) (dlen (d_S l17)) (by rw[←hl17];exact gY hg ht []) (by rw[←hl17];exact fm hg ht []) ?_;cbv;obtain⟨hc26,h_1⟩:=ah h_1;refine AStep.mk hc26 ?_;cbv;obtain⟨hc31,h_1⟩:=ah h_1;obtain⟨hc32,h_1⟩:=ah h_1;refine AStep.mk ⟨(gC hg ht hc31),(cU hg ht (al hg ht _) (dh hg ht _ _ _) hc32)⟩ ?_;cbv;obtain⟨l18,hl18,h_1⟩:=ak h_1;try dsimp only at h_1
   refine ANew.mk (d_S l18) (dlen (d_S l18)) (by rw[←hl18];exact iO hg ht (al hg ht _) (dh hg ht _ _ _)) (by rw[←hl18];exact fA hg ht (al hg ht _) (dh hg ht _ _ _)) ?_;cbv;obtain⟨l19,hl19,h_1⟩:=ak h_1;try dsimp only at h_1
   refine ANew.mk (d_S l19) (dlen (d_S l19)) (by rw[←hl19];exact gY hg ht [x1_From]) (by rw[←hl19];exact fm hg ht [x1_From]) ?_;cbv;obtain⟨hc30,h_1⟩:=ah h_1;refine AStep.mk ⟨⟨rfl,(al hg ht _)⟩,(cU hg ht (al hg ht _) rfl hc30)⟩ ?_;cbv;obtain⟨l20,hl20,h_1⟩:=ak h_1;try dsimp only at h_1
   refine ANew.mk (d_S l20) (dlen (d_S l20)) (by rw[←hl20];exact iO hg ht (al hg ht _) rfl) (by rw[←hl20];exact fA hg ht (al hg ht _) rfl) ?_;cbv;obtain⟨hc27,h_1⟩:=ah h_1;refine AStep.mk hc27 ?_;cbv;obtain⟨hc28,h_1⟩:=ah h_1;obtain⟨hc29,h_1⟩:=ah h_1;refine AStep.mk ⟨(gC hg ht hc28),(cU hg ht (al hg ht _) (dh hg ht _ _ _) hc29)⟩ ?_;cbv;obtain⟨l21,hl21,h_1⟩:=ak h_1;try dsimp only at h_1
   refine ANew.mk (d_S l21) (dlen (d_S l21)) (by rw[←hl21];exact iO hg ht (al hg ht _) (dh hg ht _ _ _)) (by rw[←hl21];exact fA hg ht (al hg ht _) (dh hg ht _ _ _)) ?_;cbv;try rw[hg] at h_1
   try rw[ht] at h_1
   refine⟨⟨(n1,(wrap .i64 (add v1 1)),l21),hs1.1,hs1.2,h_1⟩,Wk.of [(0,some 0),(1,some 370)] rfl rfl ?_ ?_,Nat.lt_succ_self _⟩
   ·cbv;all_goals exact⟨⟨_,rfl,rfl⟩,⟨_,rfl,rfl⟩,⟨_,rfl,rfl⟩,trivial⟩
   cbv;all_goals exact⟨⟨_,rfl,_,rfl,rfl,rfl,rfl,trivial⟩,⟨_,rfl,rfl⟩,trivial⟩
  rw[ab hb2] at h_1;cbv;refine AStep.mk (by decide) ?_;cbv;obtain⟨hc2,h_1⟩:=ah h_1;refine AStep.mk hc2 ?_;cbv;refine AGet.mk _ (ax hg ht hx1) ?_;cbv;obtain⟨hB2,h_1⟩:=ah h_1;obtain⟨o2,ho2,h_1⟩:=ac h_1;try dsimp only at h_1
  try rw[hg] at ho2
  try rw[ht] at ho2
  refine ABL.mk {p:Nat×Int//p.1=aq p.2 (int (dlen (d_S w1)))∧0≤p.2∧cO G.real TE.real w1 (Leg.mk x1_From x1_To x1_Start x1_Takes x1_Days x1_Room) p.1 p.2=some o2} (fun⟨⟨n2,v2⟩,_⟩=>({sl:=[(1,.c (.p 0 3 0 0)),(3,.c (.f 1 1 0 (dlen (d_S w1)))),(4,.c (.r (.v (.int .i64 v1)))),(5,.c (.r (.v (.string x1_To)))),(6,.c (.r (.v (.int .i64 v2))))],tab:=[(0,some (.foc 3 [] [.r (.s 6 (r_Leg a0_Legs)),.r (.s 1 (r_I64 a0_Off)),.r (.v (.int .i64 a0_Change))] [])),(1,some (.arr 1 (d_S w1)))]}:St)) 2 (fun p=>p.1.1) ⟨(aq 0 (int (dlen (d_S w1))),0),rfl,Int.le_refl _,ho2⟩ (Int) (fun y1=>({sl:=[(1,.c (.p 0 3 0 0)),(3,.c (.f 1 1 0 (dlen (d_S w1)))),(4,.c (.r (.v (.int .i64 v1)))),(5,.c (.r (.v (.string x1_To)))),(6,.c (.r (.v (.int .i64 y1))))],tab:=[(0,some (.foc 3 [] [.r (.s 6 (r_Leg a0_Legs)),.r (.s 1 (r_I64 a0_Off)),.r (.v (.int .i64 a0_Change))] [])),(1,some (.arr 1 (d_S w1)))]}:St)) 2 (fun y=>o2=y) ?_ ?_ ?_
  ·refine Wk.of [(0,some 0),(1,some 1)] rfl rfl ?_ ?_
   ·cbv;all_goals exact⟨⟨_,rfl,rfl⟩,⟨_,rfl,rfl⟩,⟨_,rfl,rfl⟩,⟨_,rfl,rfl⟩,⟨_,rfl,rfl⟩,trivial⟩
   cbv;all_goals exact⟨⟨_,rfl,_,rfl,rfl,rfl,rfl,trivial⟩,⟨_,rfl,rfl⟩,trivial⟩
  ·rintro⟨⟨n2,v2⟩,hn2,hi2,h_2⟩ hq2;try dsimp only at hn2 hi2 h_2
   clear hq2;cbv;rcases n2 with _|n2
   ·have hb3:lt v2 (int (dlen (d_S w1)))=false:=be hg hn2;rw[cO] at h_2;try rw[←hg] at h_2
    try rw[←ht] at h_2
    try dsimp only at h_2
    rw[hb3];cbv;iterate 6 try(rw[hb3];cbv)
    refine⟨v2,Wk.of [(0,some 0),(1,some 1)] rfl rfl ?_ ?_,(Option.some.inj h_2).symm⟩
    ·cbv;all_goals exact⟨⟨_,rfl,rfl⟩,⟨_,rfl,rfl⟩,⟨_,rfl,rfl⟩,⟨_,rfl,rfl⟩,⟨_,rfl,rfl⟩,trivial⟩
    cbv;all_goals exact⟨⟨_,rfl,_,rfl,rfl,rfl,rfl,trivial⟩,⟨_,rfl,rfl⟩,trivial⟩
   have hb3:lt v2 (int (dlen (d_S w1)))=true:=bF hg hn2;have hl2:=dM hn2;have hs2:=cF hg hn2 hi2 hB2 (by decide);rw[cO] at h_2;try rw[←hg] at h_2
   try rw[←ht] at h_2
   try dsimp only at h_2
   rw[hb3];cbv;iterate 2 try(rw[hb3];cbv)
   refine AStep.mk (dB hg hi2 hl2) ?_;cbv;try(rw[hb3];cbv)
   obtain⟨x2,hx2,h_2⟩:=aB h_2;try dsimp only at h_2
   refine AGet.mk _ (fW hg ht hx2) ?_;cbv;iterate 3 try(rw[hb3];cbv)
   cases hb4:(slt x2 x1_To)
   ·rw[aa hb4] at h_2;cbv;refine⟨v2,Wk.of [(0,some 0),(1,some 1)] rfl rfl ?_ ?_,(Option.some.inj h_2).symm⟩
    ·cbv;all_goals exact⟨⟨_,rfl,rfl⟩,⟨_,rfl,rfl⟩,⟨_,rfl,rfl⟩,⟨_,rfl,rfl⟩,⟨_,rfl,rfl⟩,trivial⟩
    cbv;all_goals exact⟨⟨_,rfl,_,rfl,rfl,rfl,rfl,trivial⟩,⟨_,rfl,rfl⟩,trivial⟩
   rw[ab hb4] at h_2;cbv;try rw[hg] at h_2
   try rw[ht] at h_2
   refine⟨⟨(n2,(wrap .i64 (add v2 1))),hs2.1,hs2.2,h_2⟩,Wk.of [(0,some 0),(1,some 1)] rfl rfl ?_ ?_,Nat.lt_succ_self _⟩
   ·cbv;all_goals exact⟨⟨_,rfl,rfl⟩,⟨_,rfl,rfl⟩,⟨_,rfl,rfl⟩,⟨_,rfl,rfl⟩,⟨_,rfl,rfl⟩,trivial⟩
   cbv;all_goals exact⟨⟨_,rfl,_,rfl,rfl,rfl,rfl,trivial⟩,⟨_,rfl,rfl⟩,trivial⟩
  rintro y1 hy2;replace hy2:=hy2.symm;subst hy2;try dsimp only[lr,lrL,lrp,aP] at h_1
  cbv
  cases hb5:(eq y1 (int (dlen (d_S w1))))
  rotate_left
  ·rw[ab hb5] at h_1;cbv;iterate 6 try(rw[hb5];cbv)
   obtain⟨l2,hl2,h_1⟩:=ak h_1;try dsimp only at h_1
   refine ANew.mk (d_S l2) (dlen (d_S l2)) (by rw[←hl2];exact gY hg ht []) (by rw[←hl2];exact fm hg ht []) ?_;cbv;obtain⟨hc3,h_1⟩:=ah h_1;refine AStep.mk hc3 ?_;cbv;obtain⟨hc8,h_1⟩:=ah h_1;obtain⟨hc9,h_1⟩:=ah h_1;refine AStep.mk ⟨(gC hg ht hc8),(cU hg ht (al hg ht _) (dh hg ht _ _ _) hc9)⟩ ?_;cbv;obtain⟨l3,hl3,h_1⟩:=ak h_1;try dsimp only at h_1
   refine ANew.mk (d_S l3) (dlen (d_S l3)) (by rw[←hl3];exact iO hg ht (al hg ht _) (dh hg ht _ _ _)) (by rw[←hl3];exact fA hg ht (al hg ht _) (dh hg ht _ _ _)) ?_;cbv;obtain⟨l4,hl4,h_1⟩:=ak h_1;try dsimp only at h_1
   refine ANew.mk (d_S l4) (dlen (d_S l4)) (by rw[←hl4];exact gY hg ht [x1_To]) (by rw[←hl4];exact fm hg ht [x1_To]) ?_;cbv;obtain⟨hc7,h_1⟩:=ah h_1;refine AStep.mk ⟨⟨rfl,(al hg ht _)⟩,(cU hg ht (al hg ht _) rfl hc7)⟩ ?_;cbv;obtain⟨l5,hl5,h_1⟩:=ak h_1;try dsimp only at h_1
   refine ANew.mk (d_S l5) (dlen (d_S l5)) (by rw[←hl5];exact iO hg ht (al hg ht _) rfl) (by rw[←hl5];exact fA hg ht (al hg ht _) rfl) ?_;cbv;obtain⟨hc4,h_1⟩:=ah h_1;refine AStep.mk hc4 ?_;cbv;obtain⟨hc5,h_1⟩:=ah h_1;obtain⟨hc6,h_1⟩:=ah h_1;refine AStep.mk ⟨(gC hg ht hc5),(cU hg ht (al hg ht _) (dh hg ht _ _ _) hc6)⟩ ?_;cbv;obtain⟨l6,hl6,h_1⟩:=ak h_1;try dsimp only at h_1
   refine ANew.mk (d_S l6) (dlen (d_S l6)) (by rw[←hl6];exact iO hg ht (al hg ht _) (dh hg ht _ _ _)) (by rw[←hl6];exact fA hg ht (al hg ht _) (dh hg ht _ _ _)) ?_;cbv;try rw[hg] at h_1
   try rw[ht] at h_1
   refine⟨⟨(n1,(wrap .i64 (add v1 1)),l6),hs1.1,hs1.2,h_1⟩,Wk.of [(0,some 0),(1,some 370)] rfl rfl ?_ ?_,Nat.lt_succ_self _⟩
   ·cbv;all_goals exact⟨⟨_,rfl,rfl⟩,⟨_,rfl,rfl⟩,⟨_,rfl,rfl⟩,trivial⟩
   cbv;all_goals exact⟨⟨_,rfl,_,rfl,rfl,rfl,rfl,trivial⟩,⟨_,rfl,rfl⟩,trivial⟩
  rw[aa hb5] at h_1;cbv;iterate 2 try(rw[hb5];cbv)
  obtain⟨hc10,h_1⟩:=ah h_1;refine AStep.mk hc10 ?_;cbv;try(rw[hb5];cbv)
  obtain⟨x3,hx3,h_1⟩:=aB h_1;try dsimp only at h_1
  refine AGet.mk _ (fW hg ht hx3) ?_;cbv;iterate 3 try(rw[hb5];cbv)
  cases hb6:(seq x3 x1_To)
  rotate_left
  ·rw[ab hb6] at h_1;cbv;try rw[hg] at h_1
   try rw[ht] at h_1
   refine⟨⟨(n1,(wrap .i64 (add v1 1)),w1),hs1.1,hs1.2,h_1⟩,Wk.of [(0,some 0),(1,some 1)] rfl rfl ?_ ?_,Nat.lt_succ_self _⟩
   ·cbv;all_goals exact⟨⟨_,rfl,rfl⟩,⟨_,rfl,rfl⟩,⟨_,rfl,rfl⟩,trivial⟩
   cbv;all_goals exact⟨⟨_,rfl,_,rfl,rfl,rfl,rfl,trivial⟩,⟨_,rfl,rfl⟩,trivial⟩
  rw[aa hb6] at h_1;cbv;obtain⟨l7,hl7,h_1⟩:=ak h_1;try dsimp only at h_1
  refine ANew.mk (d_S l7) (dlen (d_S l7)) (by rw[←hl7];exact gY hg ht []) (by rw[←hl7];exact fm hg ht []) ?_;cbv;obtain⟨hc11,h_1⟩:=ah h_1;refine AStep.mk hc11 ?_;cbv;obtain⟨hc16,h_1⟩:=ah h_1;obtain⟨hc17,h_1⟩:=ah h_1;refine AStep.mk ⟨(gC hg ht hc16),(cU hg ht (al hg ht _) (dh hg ht _ _ _) hc17)⟩ ?_;cbv;obtain⟨l8,hl8,h_1⟩:=ak h_1;try dsimp only at h_1
  refine ANew.mk (d_S l8) (dlen (d_S l8)) (by rw[←hl8];exact iO hg ht (al hg ht _) (dh hg ht _ _ _)) (by rw[←hl8];exact fA hg ht (al hg ht _) (dh hg ht _ _ _)) ?_;cbv;obtain⟨l9,hl9,h_1⟩:=ak h_1;try dsimp only at h_1
  refine ANew.mk (d_S l9) (dlen (d_S l9)) (by rw[←hl9];exact gY hg ht [x1_To]) (by rw[←hl9];exact fm hg ht [x1_To]) ?_;cbv;obtain⟨hc15,h_1⟩:=ah h_1;refine AStep.mk ⟨⟨rfl,(al hg ht _)⟩,(cU hg ht (al hg ht _) rfl hc15)⟩ ?_;cbv;obtain⟨l10,hl10,h_1⟩:=ak h_1;try dsimp only at h_1
  refine ANew.mk (d_S l10) (dlen (d_S l10)) (by rw[←hl10];exact iO hg ht (al hg ht _) rfl) (by rw[←hl10];exact fA hg ht (al hg ht _) rfl) ?_;cbv;obtain⟨hc12,h_1⟩:=ah h_1;refine AStep.mk hc12 ?_;cbv;obtain⟨hc13,h_1⟩:=ah h_1;obtain⟨hc14,h_1⟩:=ah h_1;refine AStep.mk ⟨(gC hg ht hc13),(cU hg ht (al hg ht _) (dh hg ht _ _ _) hc14)⟩ ?_;cbv;obtain⟨l11,hl11,h_1⟩:=ak h_1;try dsimp only at h_1
  refine ANew.mk (d_S l11) (dlen (d_S l11)) (by rw[←hl11];exact iO hg ht (al hg ht _) (dh hg ht _ _ _)) (by rw[←hl11];exact fA hg ht (al hg ht _) (dh hg ht _ _ _)) ?_;cbv;try rw[hg] at h_1
  try rw[ht] at h_1
  refine⟨⟨(n1,(wrap .i64 (add v1 1)),l11),hs1.1,hs1.2,h_1⟩,Wk.of [(0,some 0),(1,some 370)] rfl rfl ?_ ?_,Nat.lt_succ_self _⟩
  ·cbv;all_goals exact⟨⟨_,rfl,rfl⟩,⟨_,rfl,rfl⟩,⟨_,rfl,rfl⟩,trivial⟩
  cbv;all_goals exact⟨⟨_,rfl,_,rfl,rfl,rfl,rfl,trivial⟩,⟨_,rfl,rfl⟩,trivial⟩
 rintro y3 hy1;replace hy1:=hy1.symm;subst hy1;try dsimp only[lr,lrL,lrp,aP] at h
 cbv;obtain rfl:=Option.some.inj h;exact ARet.mk ⟨rfl,(al hg ht _)⟩ hX.symm
def ir85:J:=js [jq 2 (.box 0),jq 3 (.box 1),jm 4 (ki 0)] [2,3] (.seq (.reg (some [[],[0],[0,1],[],[3],[],[5],[3,4,5,6],[3,4,5,6,7],[3,4,5,6,7,8],[0,1,2,3,4,5,6,7,8,9],[0,1,2,3,4,5,6,7,8,9,10]]) [jf 5 1 3,jk 6 5,jb 7 .mul .i 6 (ki 1440),jf 8 0 2,jk 9 8,jf 10 0 3,jk 11 10,ja 12 6 9 11,jf 13 2 12,jk 14 13,jb 15 .add .i 7 14,jm 4 15] [4]) .ret)
def rv85:List RV:=[.t 4]
def aU (g:G) (t:TE) (a0:Network) (a1:Trip):Option Int:=
 gd (((0:Int)≤a1.Leg))<|
 gt a0.Legs (g.nat a1.Leg) fun x1=>
 some (g.wrap .i64 (g.add (g.wrap .i64 (g.mul a1.Day 1440)) x1.Start))
theorem ba {g:G} {t:TE} {a0:Network} {a1:Trip} {r:Int} (hg:g=G.real) (ht:t=TE.real) (h:aU g t a0 a1=some r):Fn Tryz.prog 85 [.g (Network.rs t a0),.g (Trip.rs t a1)] (.c (.r (.v (.int .i64 r)))):=by
 obtain⟨X,hX⟩:=aE (.c (.r (.v (.int .i64 r))):X);rw[←hX];refine au (rvs:=rv85) (j:=ir85) Tryz.func85 rfl (by kernel_rfl) (nb rfl) (by kernel_rfl) ae ?_;intro g2 F hg2 hF;obtain rfl:g2=g:=hg2.unique.trans hg.symm;clear hg2;obtain⟨_⟩:=g2;obtain⟨_⟩:=t
 obtain⟨a0_Legs,a0_Off,a0_Change⟩:=a0;obtain⟨a1_Leg,a1_Day⟩:=a1;unfold aU at h;try dsimp only at h
 cbv;obtain⟨hc1,h⟩:=ah h;refine AStep.mk hc1 ?_;cbv;obtain⟨x1,hx1,h⟩:=aB h;obtain⟨x1_From,x1_To,x1_Start,x1_Takes,x1_Days,x1_Room⟩:=x1;try dsimp only at h
 refine AGet.mk _ (ax hg ht hx1) ?_;cbv;obtain rfl:=Option.some.inj h;exact ARet.mk trivial hX.symm
def ir86:J:=js [jq 2 (.box 0),jq 3 (.box 1),jm 4 (ki 0)] [2,3] (.seq (.reg (some [[],[],[0,1],[],[3],[],[5],[3,4,5,6],[3,4,5,6,7],[3,4,5,6,7,8],[0,1,2,3,4,5,6,7,8,9],[0,1,2,3,4,5,6,7,8,9,10]]) [jl 5 3 2,jl 6 2 3,jc 7 85 [5,6],jf 8 0 2,jk 9 8,jf 10 0 3,jk 11 10,ja 12 6 9 11,jf 13 3 12,jk 14 13,jb 15 .add .i 7 14,jm 4 15] [4]) .ret)
def rv86:List RV:=[.t 4]
def bw (g:G) (t:TE) (a0:Network) (a1:Trip):Option Int:=
 cl (aU g t a0 a1) fun x1=>
 gd (((0:Int)≤a1.Leg))<|
 gt a0.Legs (g.nat a1.Leg) fun x2=>
 some (g.wrap .i64 (g.add x1 x2.Takes))
theorem bu {g:G} {t:TE} {a0:Network} {a1:Trip} {r:Int} (hg:g=G.real) (ht:t=TE.real) (h:bw g t a0 a1=some r):Fn Tryz.prog 86 [.g (Network.rs t a0),.g (Trip.rs t a1)] (.c (.r (.v (.int .i64 r)))):=by
 obtain⟨X,hX⟩:=aE (.c (.r (.v (.int .i64 r))):X);rw[←hX];refine au (rvs:=rv86) (j:=ir86) Tryz.func86 rfl (by kernel_rfl) (nb rfl) (by kernel_rfl) ae ?_;intro g2 F hg2 hF;obtain rfl:g2=g:=hg2.unique.trans hg.symm;clear hg2;obtain⟨_⟩:=g2;obtain⟨_⟩:=t
 obtain⟨a0_Legs,a0_Off,a0_Change⟩:=a0;obtain⟨a1_Leg,a1_Day⟩:=a1;unfold bw at h;try dsimp only at h
 cbv;obtain⟨x1,hx1,h⟩:=ac h;try dsimp only at h
 refine ACall.mk _ _ rfl (hF _ _ _ (ba hg ht hx1)) (.inl rfl) (nb rfl) ?_;cbv;obtain⟨hc1,h⟩:=ah h;refine AStep.mk hc1 ?_;cbv;obtain⟨x2,hx2,h⟩:=aB h;obtain⟨x2_From,x2_To,x2_Start,x2_Takes,x2_Days,x2_Room⟩:=x2;try dsimp only at h
 refine AGet.mk _ (ax hg ht hx2) ?_;cbv;obtain rfl:=Option.some.inj h;exact ARet.mk trivial hX.symm
def Ic:J:=js [jm 6 kf] [0,1,2] (js [jm 7 0,jm 8 1,jb 9 .geq .i 7 8,jm 10 9,ju 11 10 (.mv 0),ju 12 10 (.mv 2),ju 13 10 (.bin .leq .i 11 12),jq 14 (.pick 10 13 kf),jm 6 14] [6] .ret)
def GM:List RV:=[.t 6]
def gu (g:G) (t:TE) (a0:Int) (a1:Int) (a2:Int):Bool:=
 br (g.le a1 a0)
 (
  (g.le a0 a2))
 (
  false)
theorem fK {g:G} {t:TE} {a0:Int} {a1:Int} {a2:Int} {r:Bool} (hg:g=G.real) (ht:t=TE.real) (h:gu g t a0 a1 a2=r):Fn Tryz.prog 102 [.c (.v (.int .i64 a0)),.c (.v (.int .i64 a1)),.c (.v (.int .i64 a2))] (.c (.r (.v (.bool r)))):=by
 obtain⟨X,hX⟩:=aE (.c (.r (.v (.bool r))):X);rw[←hX];refine au (rvs:=GM) (j:=Ic) Tryz.func102 rfl (by kernel_rfl) (nb rfl) (by kernel_rfl) ae ?_;intro g2 F hg2 hF;obtain rfl:g2=g:=hg2.unique.trans hg.symm;clear hg2;obtain⟨_,_,le⟩:=g2;obtain⟨_⟩:=t
 unfold gu at h;try dsimp only at h
 cbv
 cases hb1:(le a1 a0)
 rotate_left
 ·rw[ab hb1] at h;cbv;iterate 3 try(rw[hb1];cbv)
  subst h;exact ARet.mk trivial hX.symm
 rw[aa hb1] at h;cbv;iterate 3 try(rw[hb1];cbv)
 subst h;exact ARet.mk trivial hX.symm
def H2:J:=js [jm 2 kf] [0] (.seq (js [jm 4 0,jq 5 (.len true 4),jb 6 .neq .i 5 (ki 3)] [0,6] (.cond 6 (js [jm 2 kf] [2] .ret) .skip)) (.seq (js [jm 3 (ki 0)] [0,3] (.bl 0 (.seq (js [jm 7 3,jb 8 .lss .i 7 (ki 3)] [0,3,8] (.cond 8 .skip (.exit 0))) (.seq (.block 1 (js [jm 11 0,jm 12 3,jq 13 (.idx 11 12),jq 14 (.cvt .i64 13),jc 15 102 [14,(ki 65),(ki 90)],jq 16 (.not 15)] [0,3,16] (.cond 16 (js [jm 2 kf] [2] .ret) .skip))) (.reg none [jm 9 3,jb 10 .add .i 9 (ki 1),jm 3 10] [0,3]))))) (js [jm 2 kt] [2] .ret)))
def HZ:List RV:=[.t 2]
def ef (g:G) (t:TE) (a0:ByteArray):Nat→Int→Option (LR Bool Unit)
 |0,v1=>
  some (LR.out ())
 |n1+1,v1=>
  gd (((0:Int)≤v1∧v1<(((a0.size):Nat):Int)))<|
  lP (gu g t (g.wrap .i64 (g.byte a0 v1)) 65 90) fun x1=>
  br x1
  (
   ef g t a0 n1 (g.wrap .i64 (g.add v1 1)))
  (
   some (LR.ret false))
def jy (g:G) (t:TE) (a0:ByteArray):Option Bool:=
 br (g.eq (g.int (g.slen a0)) 3)
 (
  cl (ef g t a0 (aq 0 3) 0) fun o1=>lr o1 fun y1=>
  some true)
 (
  some false)
theorem pQ {g:G} {t:TE} {a0:ByteArray} {r:Bool} (hg:g=G.real) (ht:t=TE.real) (h:jy g t a0=some r):Fn Tryz.prog 145 [.c (.v (.string a0))] (.c (.r (.v (.bool r)))):=by
 obtain⟨X,hX⟩:=aE (.c (.r (.v (.bool r))):X);rw[←hX];refine au (rvs:=HZ) (j:=H2) Tryz.func145 rfl (by kernel_rfl) (nb rfl) (by kernel_rfl) ae ?_;intro g2 F hg2 hF;obtain rfl:g2=g:=hg2.unique.trans hg.symm;clear hg2;obtain⟨wrap,lt,_,eq,_,_,_,_,_,_,_,_,int,add,_,_,_,_,_,_,_,_,_,_,_,_,_,_,_,_,_,_,_,_,_,slen⟩:=g2;obtain⟨_⟩:=t
 unfold jy at h;try dsimp only at h
 cbv
 cases hb1:(eq (int (slen a0)) 3)
 ·rw[aa hb1] at h;cbv;obtain rfl:=Option.some.inj h;exact ARet.mk trivial hX.symm
 rw[ab hb1] at h;cbv;obtain⟨o1,ho1,h⟩:=ac h;try dsimp only at h
 try rw[hg] at ho1
 try rw[ht] at ho1
 refine ABL.mk {p:Nat×Int//p.1=aq p.2 3∧0≤p.2∧ef G.real TE.real a0 p.1 p.2=some o1} (fun⟨⟨n1,v1⟩,_⟩=>({sl:=[(0,.c (.r (.v (.string a0)))),(3,.c (.r (.v (.int .i64 v1))))],tab:=[]}:St)) 0 (fun p=>p.1.1) ⟨(aq 0 3,0),rfl,Int.le_refl _,ho1⟩ (Unit) (fun _=>({sl:=[],tab:=[]}:St)) 0 (fun y=>o1=LR.out y) ?_ ?_ ?_
 ·refine Wk.of [] rfl rfl ?_ ?_
  ·cbv;all_goals exact⟨⟨_,rfl,rfl⟩,⟨_,rfl,rfl⟩,trivial⟩
  cbv;all_goals exact trivial
 ·rintro⟨⟨n1,v1⟩,hn1,hi1,h_1⟩ hq1;try dsimp only at hn1 hi1 h_1
  clear hq1;cbv;rcases n1 with _|n1
  ·have hb2:lt v1 3=false:=be hg hn1;rw[ef] at h_1;try rw[←hg] at h_1
   try rw[←ht] at h_1
   try dsimp only at h_1
   rw[hb2];cbv;refine⟨(),Wk.of [] rfl rfl ?_ ?_,(Option.some.inj h_1).symm⟩
   ·cbv;all_goals exact trivial
   cbv;all_goals exact trivial
  have hb2:lt v1 3=true:=bF hg hn1;have hl1:=dM hn1;have hs1:=cF hg hn1 hi1 (by decide) (by decide);rw[ef] at h_1;try rw[←hg] at h_1
  try rw[←ht] at h_1
  try dsimp only at h_1
  rw[hb2];cbv;obtain⟨hc1,h_1⟩:=ah h_1;refine AStep.mk hc1 ?_;cbv;obtain⟨x1,hx1,h_1⟩:=ak h_1;try dsimp only at h_1
  refine ACall.mk _ _ rfl (hF _ _ _ (fK hg ht hx1)) (.inl rfl) (nb rfl) ?_;cbv
  cases hb3:x1
  ·rw[aa hb3] at h_1;cbv;obtain rfl:=Option.some.inj h_1;try dsimp only[lr,lrL,lrp,aP] at h
   obtain rfl:=Option.some.inj h;exact ARet.mk trivial hX.symm
  rw[ab hb3] at h_1;cbv;try rw[hg] at h_1
  try rw[ht] at h_1
  refine⟨⟨(n1,(wrap .i64 (add v1 1))),hs1.1,hs1.2,h_1⟩,Wk.of [] rfl rfl ?_ ?_,Nat.lt_succ_self _⟩
  ·cbv;all_goals exact⟨⟨_,rfl,rfl⟩,⟨_,rfl,rfl⟩,trivial⟩
  cbv;all_goals exact trivial
 rintro _ hy1;replace hy1:=hy1.symm;subst hy1;try dsimp only[lr,lrL,lrp,aP] at h
 cbv;obtain rfl:=Option.some.inj h;exact ARet.mk trivial hX.symm
def Gx:J:=js [jq 1 (.box 0),jm 2 kf] [1] (js [jf 3 0 1,jk 4 3,jc 5 145 [4],jm 6 5,ju 7 6 (.fa 1 1),ju 8 6 (.ld false 1 7),ju 9 6 (.call 145 true [8]),jq 10 (.pick 6 9 kf),jm 11 10,ju 12 11 (.fa 0 1),ju 13 11 (.ld false 1 12),ju 14 11 (.fa 1 1),ju 15 11 (.ld false 1 14),ju 16 11 (.bin .neq .s 13 15),jq 17 (.pick 11 16 kf),jm 18 17,ju 19 18 (.fa 2 1),ju 20 18 (.ld false 1 19),ju 21 18 (.call 102 true [20,(ki 0),(ki 1439)]),jq 22 (.pick 18 21 kf),jm 23 22,ju 24 23 (.fa 3 1),ju 25 23 (.ld false 1 24),ju 26 23 (.call 102 true [25,(ki 1),(ki 4320)]),jq 27 (.pick 23 26 kf),jm 28 27,ju 29 28 (.fa 4 1),ju 30 28 (.ld false 1 29),ju 31 28 (.call 102 true [30,(ki 1),(ki 127)]),jq 32 (.pick 28 31 kf),jm 33 32,ju 34 33 (.fa 5 1),ju 35 33 (.ld false 1 34),ju 36 33 (.call 102 true [35,(ki 0),(ki 1000000)]),jq 37 (.pick 33 36 kf),jm 2 37] [2] .ret)
def Hp:List RV:=[.t 2]
def o8 (g:G) (t:TE) (a0:Leg):Option Bool:=
 cl (jy g t a0.From) fun x1=>
 br x1
 (
  cl (jy g t a0.To) fun x2=>
  br x2
  (
   br (g.seq a0.From a0.To)
   (
    some false)
   (
    lP (gu g t a0.Start 0 1439) fun x3=>
    br x3
    (
     lP (gu g t a0.Takes 1 4320) fun x4=>
     br x4
     (
      lP (gu g t a0.Days 1 127) fun x5=>
      br x5
      (
       lP (gu g t a0.Room 0 1000000) fun x6=>
       some x6)
      (
       some false))
     (
      some false))
    (
     some false)))
  (
   some false))
 (
  some false)
theorem Ar {g:G} {t:TE} {a0:Leg} {r:Bool} (hg:g=G.real) (ht:t=TE.real) (h:o8 g t a0=some r):Fn Tryz.prog 127 [.g (Leg.rs t a0)] (.c (.r (.v (.bool r)))):=by
 obtain⟨X,hX⟩:=aE (.c (.r (.v (.bool r))):X);rw[←hX];refine au (rvs:=Hp) (j:=Gx) Tryz.func127 rfl (by kernel_rfl) (nb rfl) (by kernel_rfl) ae ?_;intro g2 F hg2 hF;obtain rfl:g2=g:=hg2.unique.trans hg.symm;clear hg2;obtain⟨_,_,_,_,_,_,_,_,_,_,_,_,_,_,_,_,_,seq⟩:=g2;obtain⟨_⟩:=t
 obtain⟨a0_From,a0_To,a0_Start,a0_Takes,a0_Days,a0_Room⟩:=a0;unfold o8 at h;try dsimp only at h
 cbv;obtain⟨x1,hx1,h⟩:=ac h;try dsimp only at h
 refine ACall.mk _ _ rfl (hF _ _ _ (pQ hg ht hx1)) (.inl rfl) (nb rfl) ?_;cbv
 cases hb1:x1
 ·rw[aa hb1] at h;cbv;iterate 3 try(rw[hb1];cbv)
  obtain rfl:=Option.some.inj h;exact ARet.mk trivial hX.symm
 rw[ab hb1] at h;cbv;iterate 2 try(rw[hb1];cbv)
 obtain⟨x2,hx2,h⟩:=ac h;try dsimp only at h
 refine ACall.mk _ _ rfl (hF _ _ _ (pQ hg ht hx2)) (.inl rfl) (nb rfl) ?_;cbv;try(rw[hb1];cbv)
 cases hb2:x2
 ·rw[aa hb2] at h;cbv;iterate 5 try(rw[hb2];cbv)
  obtain rfl:=Option.some.inj h;exact ARet.mk trivial hX.symm
 rw[ab hb2] at h;cbv;iterate 5 try(rw[hb2];cbv)
 cases hb3:(seq a0_From a0_To)
 rotate_left
 ·rw[ab hb3] at h;cbv;iterate 3 try(rw[hb3];cbv)
  obtain rfl:=Option.some.inj h;exact ARet.mk trivial hX.symm
 rw[aa hb3] at h;cbv;iterate 2 try(rw[hb3];cbv)
 obtain⟨x3,hx3,h⟩:=ak h;try dsimp only at h
 refine ACall.mk _ _ rfl (hF _ _ _ (fK hg ht hx3)) (.inl rfl) (nb rfl) ?_;cbv;try(rw[hb3];cbv)
 cases hb4:x3
 ·rw[aa hb4] at h;cbv;iterate 3 try(rw[hb4];cbv)
  obtain rfl:=Option.some.inj h;exact ARet.mk trivial hX.symm
 rw[ab hb4] at h;cbv;iterate 2 try(rw[hb4];cbv)
 obtain⟨x4,hx4,h⟩:=ak h;try dsimp only at h
 refine ACall.mk _ _ rfl (hF _ _ _ (fK hg ht hx4)) (.inl rfl) (nb rfl) ?_;cbv;try(rw[hb4];cbv)
 cases hb5:x4
 ·rw[aa hb5] at h;cbv;iterate 3 try(rw[hb5];cbv)
  obtain rfl:=Option.some.inj h;exact ARet.mk trivial hX.symm
 rw[ab hb5] at h;cbv;iterate 2 try(rw[hb5];cbv)
 obtain⟨x5,hx5,h⟩:=ak h;try dsimp only at h
 refine ACall.mk _ _ rfl (hF _ _ _ (fK hg ht hx5)) (.inl rfl) (nb rfl) ?_;cbv;try(rw[hb5];cbv)
 cases hb6:x5
 ·rw[aa hb6] at h;cbv;iterate 3 try(rw[hb6];cbv)
  obtain rfl:=Option.some.inj h;exact ARet.mk trivial hX.symm
 rw[ab hb6] at h;cbv;iterate 2 try(rw[hb6];cbv)
 obtain⟨x6,hx6,h⟩:=ak h;try dsimp only at h
 refine ACall.mk _ _ rfl (hF _ _ _ (fK hg ht hx6)) (.inl rfl) (nb rfl) ?_;cbv;try(rw[hb6];cbv)
 obtain rfl:=Option.some.inj h;exact ARet.mk trivial hX.symm
def GK:J:=js [jq 1 (.box 0),jm 2 kf] [1] (.seq (js [jm 3 (ki 0)] [1,3] (.bl 0 (.seq (js [jm 5 3,jf 6 0 1,jk 7 6,jq 8 (.len false 7),jb 9 .lss .i 5 8] [1,3,9] (.cond 9 .skip (.exit 0))) (.seq (.block 1 (js [jf 12 0 1,jk 13 12,jm 14 3,ja 15 6 13 14,jl 16 6 15,jc 17 127 [16],jq 18 (.not 17)] [1,3,18] (.cond 18 (js [jm 2 kf] [2] .ret) .skip))) (.reg none [jm 10 3,jb 11 .add .i 10 (ki 1),jm 3 11] [1,3]))))) (.seq (js [jm 4 (ki 0)] [1,4] (.bl 2 (.seq (js [jm 19 4,jf 20 1 1,jk 21 20,jq 22 (.len false 21),jb 23 .lss .i 19 22] [1,4,23] (.cond 23 .skip (.exit 2))) (.seq (.block 3 (.seq (.reg (some [[],[0],[],[0,1,2],[0,1,2,3],[0,1,2,3,4],[0,1,2,3,4,5],[0,1,2,3,4,5,6],[0,1,2,3,4,5,6,7],[0,1,2,3,4,5,6,7,8],[0,1,2,3,4,5,6,7,8,9],[0,1,2,3,4,5,6,7,8,9,10],[0,1,2,3,4,5,6,7,8,9,10,11],[0,1,2,3,4,5,6,7,8,9,10],[0,1,2,3,4,5,6,7,8,9,10,13],[0,1,2,3,4,5,6,7,8,9,10,11,12,13,14],[0,1,2,3,4,5,6,7,8,9,10,11,12,13,14,15],[0,1,2,3,4,5,6,7,8,9,10],[0,1,2,3,4,5,6,7,8,9,10,17],[0,1,2,3,4,5,6,7,8,9,10],[0,1,2,3,4,5,6,7,8,9,10,17,18,19],[0,1,2,3,4,5,6,7,8,9,10,17,18,19,20],[0,1,2,3,4,5,6,7,8,9,10,11,12,13,14,15,16,17,18,19,20,21],[0,1,2,3,4,5,6,7,8,9,10,11,12,13,14,15,16,17,18,19,20,21,22],[0,1,2,3,4,5,6,7,8,9,10,11,12,13,14,15,16,17,18,19,20,21,22,23]]) [jf 26 1 1,jk 27 26,jm 28 4,ja 29 1 27 28,jk 30 29,jc 31 102 [30,(ki 0),(ki 60)],jq 32 (.not 31),jm 33 32,jv 34 33 (.mv 4),jv 35 33 (.bin .gtr .i 34 (ki 0)),jv 36 33 (.mv 35),ju 37 36 (.fa 1 1),ju 38 36 (.ld false 1 37),ju 39 36 (.mv 4),ju 40 36 (.bin .sub .i 39 (ki 1)),ju 41 36 (.ia 1 38 40),ju 42 36 (.ld false 1 41),ju 43 36 (.fa 1 1),ju 44 36 (.ld false 1 43),ju 45 36 (.mv 4),ju 46 36 (.ia 1 44 45),ju 47 36 (.ld false 1 46),ju 48 36 (.bin .geq .i 42 47),jv 49 33 (.pick 36 48 kf),jq 50 (.pick 33 kt 49)] [1,4,50]) (.cond 50 (js [jm 2 kf] [2] .ret) .skip))) (.reg none [jm 24 4,jb 25 .add .i 24 (ki 1),jm 4 25] [1,4]))))) (js [jf 51 0 1,jk 52 51,jq 53 (.len false 52),jb 54 .leq .i 53 (ki 20),jm 55 54,ju 56 55 (.fa 1 1),ju 57 55 (.ld false 1 56),ju 58 55 (.len false 57),ju 59 55 (.bin .leq .i 58 (ki 10)),jq 60 (.pick 55 59 kf),jm 61 60,ju 62 61 (.fa 2 1),ju 63 61 (.ld false 1 62),ju 64 61 (.call 102 true [63,(ki 0),(ki 240)]),jq 65 (.pick 61 64 kf),jm 2 65] [2] .ret)))
def Gs:List RV:=[.t 2]
def cr (g:G) (t:TE) (a0:Network):List Int→Int→Option (LR Bool Unit)
 |[],v2=>
  some (LR.out ())
 |z2::ls2,v2=>
  lP (gu g t z2 0 60) fun x2=>
  br x2
  (
   br (g.lt 0 v2)
   (
    gd (((0:Int)≤(g.wrap .i64 (g.sub v2 1))))<|
    gt a0.Off (g.nat (g.wrap .i64 (g.sub v2 1))) fun x3=>
    br (g.le z2 x3)
    (
     some (LR.ret false))
    (
     cr g t a0 ls2 (g.wrap .i64 (g.add v2 1))))
   (
    cr g t a0 ls2 (g.wrap .i64 (g.add v2 1))))
  (
   some (LR.ret false))
def cZ (g:G) (t:TE):List Leg→Option (LR Bool Unit)
 |[]=>
  some (LR.out ())
 |z1::ls1=>
  cl (o8 g t z1) fun x1=>
  br x1
  (
   cZ g t ls1)
  (
   some (LR.ret false))
def dY (g:G) (t:TE) (a0:Network):Option Bool:=
 cl (cZ g t a0.Legs) fun o1=>lr o1 fun y1=>
 cl (cr g t a0 a0.Off 0) fun o2=>lr o2 fun y2=>
 br (g.le (g.llen (t.r_Leg a0.Legs)) 20)
 (
  br (g.le (g.llen (t.r_I64 a0.Off)) 10)
  (
   lP (gu g t a0.Change 0 240) fun x4=>
   some x4)
  (
   some false))
 (
  some false)
theorem kz {g:G} {t:TE} {a0:Network} {r:Bool} (hg:g=G.real) (ht:t=TE.real) (h:dY g t a0=some r):Fn Tryz.prog 101 [.g (Network.rs t a0)] (.c (.r (.v (.bool r)))):=by
 obtain⟨X,hX⟩:=aE (.c (.r (.v (.bool r))):X);rw[←hX];refine au (rvs:=Gs) (j:=GK) Tryz.func101 rfl (by kernel_rfl) (nb rfl) (by kernel_rfl) ae ?_;intro g2 F hg2 hF;obtain rfl:g2=g:=hg2.unique.trans hg.symm;clear hg2;obtain⟨wrap,lt,le,_,_,_,_,_,_,_,_,_,_,add,_,_,_,_,_,_,_,llen⟩:=g2;obtain⟨r_Leg,_,r_I64⟩:=t
 obtain⟨a0_Legs,a0_Off,a0_Change⟩:=a0;unfold dY at h;try dsimp only at h
 cbv;obtain⟨o1,ho1,h⟩:=ac h;try dsimp only at h
 try rw[hg] at ho1
 try rw[ht] at ho1
 refine ABL.mk {p:Nat×Int//p.1≤a0_Legs.length∧p.2=((p.1:Nat):Int)∧cZ G.real TE.real (List.drop p.1 a0_Legs)=some o1} (fun⟨⟨k1,v1⟩,_⟩=>({sl:=[(1,.c (.p 0 3 0 0)),(3,.c (.r (.v (.int .i64 v1))))],tab:=[(0,some (.foc 3 [] [.r (.s 6 (r_Leg a0_Legs)),.r (.s 1 (r_I64 a0_Off)),.r (.v (.int .i64 a0_Change))] []))]}:St)) 1 (fun p=>a0_Legs.length-p.1.1) ⟨(0,0),Nat.zero_le _,rfl,ho1⟩ (Unit) (fun _=>({sl:=[(1,.c (.p 0 3 0 0))],tab:=[(0,some (.foc 3 [] [.r (.s 6 (r_Leg a0_Legs)),.r (.s 1 (r_I64 a0_Off)),.r (.v (.int .i64 a0_Change))] []))]}:St)) 1 (fun y=>o1=LR.out y) ?_ ?_ ?_
 ·refine Wk.of [(0,some 0)] rfl rfl ?_ ?_
  ·cbv;all_goals exact⟨⟨_,rfl,rfl⟩,⟨_,rfl,rfl⟩,trivial⟩
  cbv;all_goals exact⟨⟨_,rfl,_,rfl,rfl,rfl,rfl,trivial⟩,trivial⟩
 ·rintro⟨⟨k1,v1⟩,hk1,hi1,h_1⟩ hq1;have hm1:=(hq1.2.2.1 0 _ _ _ _ 0 _ _ rfl rfl);try dsimp only at hk1 hi1 h_1
  clear hq1;cbv
  by_cases hc1_:k1<a0_Legs.length
  ·have hb1:lt v1 (llen (r_Leg a0_Legs))=true:=cL hg ht hi1 hc1_;have hs1:=ff hg ht hi1 hc1_ hm1;obtain⟨z1,hz1⟩:=aF hc1_;rw[aw hz1] at h_1;rw[cZ] at h_1;obtain⟨z1_From,z1_To,z1_Start,z1_Takes,z1_Days,z1_Room⟩:=z1;try rw[←hg] at h_1
   try rw[←ht] at h_1
   try dsimp only at h_1
   rw[hb1];cbv;refine AStep.mk (e7 hi1) ?_;cbv;refine AGet.mk _ (eU hg ht hi1 hz1) ?_;cbv;obtain⟨x1,hx1,h_1⟩:=ac h_1;try dsimp only at h_1
   refine ACall.mk _ _ rfl (hF _ _ _ (Ar hg ht hx1)) (.inl rfl) (nb rfl) ?_;cbv
   cases hb2:x1
   ·rw[aa hb2] at h_1;cbv;obtain rfl:=Option.some.inj h_1;try dsimp only[lr,lrL,lrp,aP] at h
    obtain rfl:=Option.some.inj h;exact ARet.mk trivial hX.symm
   rw[ab hb2] at h_1;cbv;try rw[hg] at h_1
   try rw[ht] at h_1
   refine⟨⟨(k1+1,(wrap .i64 (add v1 1))),hc1_,hs1,h_1⟩,Wk.of [(0,some 0)] rfl rfl ?_ ?_,aO hc1_⟩
   ·cbv;all_goals exact⟨⟨_,rfl,rfl⟩,⟨_,rfl,rfl⟩,trivial⟩
   cbv;all_goals exact⟨⟨_,rfl,_,rfl,rfl,rfl,rfl,trivial⟩,trivial⟩
  have hb1:lt v1 (llen (r_Leg a0_Legs))=false:=cg hg ht hi1 hc1_;rw[List.drop_of_length_le (Nat.le_of_not_lt hc1_)] at h_1;rw[cZ] at h_1;try rw[←hg] at h_1
  try rw[←ht] at h_1
  try dsimp only at h_1
  rw[hb1];cbv;refine⟨(),Wk.of [(0,some 0)] rfl rfl ?_ ?_,(Option.some.inj h_1).symm⟩
  ·cbv;all_goals exact⟨⟨_,rfl,rfl⟩,trivial⟩
  cbv;all_goals exact⟨⟨_,rfl,_,rfl,rfl,rfl,rfl,trivial⟩,trivial⟩
 rintro _ hy1;replace hy1:=hy1.symm;subst hy1;try dsimp only[lr,lrL,lrp,aP] at h
 cbv;obtain⟨o2,ho2,h⟩:=ac h;try dsimp only at h
 try rw[hg] at ho2
 try rw[ht] at ho2
 refine ABL.mk {p:Nat×Int//p.1≤a0_Off.length∧p.2=((p.1:Nat):Int)∧cr G.real TE.real (Network.mk a0_Legs a0_Off a0_Change) (List.drop p.1 a0_Off) p.2=some o2} (fun⟨⟨k2,v2⟩,_⟩=>({sl:=[(1,.c (.p 0 3 0 0)),(4,.c (.r (.v (.int .i64 v2))))],tab:=[(0,some (.foc 3 [] [.r (.s 6 (r_Leg a0_Legs)),.r (.s 1 (r_I64 a0_Off)),.r (.v (.int .i64 a0_Change))] []))]}:St)) 1 (fun p=>a0_Off.length-p.1.1) ⟨(0,0),Nat.zero_le _,rfl,ho2⟩ (Unit) (fun _=>({sl:=[(1,.c (.p 0 3 0 0))],tab:=[(0,some (.foc 3 [] [.r (.s 6 (r_Leg a0_Legs)),.r (.s 1 (r_I64 a0_Off)),.r (.v (.int .i64 a0_Change))] []))]}:St)) 1 (fun y=>o2=LR.out y) ?_ ?_ ?_
 ·refine Wk.of [(0,some 0)] rfl rfl ?_ ?_
  ·cbv;all_goals exact⟨⟨_,rfl,rfl⟩,⟨_,rfl,rfl⟩,trivial⟩
  cbv;all_goals exact⟨⟨_,rfl,_,rfl,rfl,rfl,rfl,trivial⟩,trivial⟩
 ·rintro⟨⟨k2,v2⟩,hk2,hi2,h_2⟩ hq2;have hm2:=(hq2.2.2.1 0 _ _ _ _ 1 _ _ rfl rfl);try dsimp only at hk2 hi2 h_2
  clear hq2;cbv
  by_cases hc2_:k2<a0_Off.length
  ·have hb3:lt v2 (llen (r_I64 a0_Off))=true:=eV hg ht hi2 hc2_;have hs2:=ib hg ht hi2 hc2_ hm2;obtain⟨z2,hz2⟩:=aF hc2_;rw[aw hz2] at h_2;rw[cr] at h_2;try rw[←hg] at h_2
   try rw[←ht] at h_2
   try dsimp only at h_2
   rw[hb3];cbv;refine AStep.mk (e7 hi2) ?_;cbv;refine AGet.mk _ (fC hg ht hi2 hz2) ?_;cbv;obtain⟨x2,hx2,h_2⟩:=ak h_2;try dsimp only at h_2
   refine ACall.mk _ _ rfl (hF _ _ _ (fK hg ht hx2)) (.inl rfl) (nb rfl) ?_;cbv
   cases hb4:x2
   ·rw[aa hb4] at h_2;cbv;iterate 4 try(rw[hb4];cbv)
    obtain rfl:=Option.some.inj h_2;try dsimp only[lr,lrL,lrp,aP] at h
    obtain rfl:=Option.some.inj h;exact ARet.mk trivial hX.symm
   rw[ab hb4] at h_2;cbv;iterate 2 try(rw[hb4];cbv)
   cases hb5:(lt 0 v2)
   ·rw[aa hb5] at h_2;cbv;iterate 11 try(rw[hb5];cbv)
    try(rw[hb4];cbv)
    try(rw[hb5];cbv)
    try(rw[hb4];cbv)
    try rw[hg] at h_2
    try rw[ht] at h_2
    refine⟨⟨(k2+1,(wrap .i64 (add v2 1))),hc2_,hs2,h_2⟩,Wk.of [(0,some 0)] rfl rfl ?_ ?_,aO hc2_⟩
    ·cbv;all_goals exact⟨⟨_,rfl,rfl⟩,⟨_,rfl,rfl⟩,trivial⟩
    cbv;all_goals exact⟨⟨_,rfl,_,rfl,rfl,rfl,rfl,trivial⟩,trivial⟩
   rw[ab hb5] at h_2;cbv;iterate 4 try(rw[hb5];cbv)
   obtain⟨hc1,h_2⟩:=ah h_2;refine AStep.mk hc1 ?_;cbv;obtain⟨x3,hx3,h_2⟩:=aB h_2;try dsimp only at h_2
   refine AGet.mk _ (jz hg ht hx3) ?_;cbv;iterate 5 try(rw[hb5];cbv)
   refine AStep.mk (e7 hi2) ?_;cbv;refine AGet.mk _ (fC hg ht hi2 hz2) ?_;cbv;iterate 2 try(rw[hb5];cbv)
   try(rw[hb4];cbv)
   try(rw[hb5];cbv)
   try(rw[hb4];cbv)
   cases hb6:(le z2 x3)
   rotate_left
   ·rw[ab hb6] at h_2;cbv;obtain rfl:=Option.some.inj h_2;try dsimp only[lr,lrL,lrp,aP] at h
    obtain rfl:=Option.some.inj h;exact ARet.mk trivial hX.symm
   rw[aa hb6] at h_2;cbv;try rw[hg] at h_2
   try rw[ht] at h_2
   refine⟨⟨(k2+1,(wrap .i64 (add v2 1))),hc2_,hs2,h_2⟩,Wk.of [(0,some 0)] rfl rfl ?_ ?_,aO hc2_⟩
   ·cbv;all_goals exact⟨⟨_,rfl,rfl⟩,⟨_,rfl,rfl⟩,trivial⟩
   cbv;all_goals exact⟨⟨_,rfl,_,rfl,rfl,rfl,rfl,trivial⟩,trivial⟩
  have hb3:lt v2 (llen (r_I64 a0_Off))=false:=ej hg ht hi2 hc2_;rw[List.drop_of_length_le (Nat.le_of_not_lt hc2_)] at h_2;rw[cr] at h_2;try rw[←hg] at h_2
  try rw[←ht] at h_2
  try dsimp only at h_2
  rw[hb3];cbv;refine⟨(),Wk.of [(0,some 0)] rfl rfl ?_ ?_,(Option.some.inj h_2).symm⟩
  ·cbv;all_goals exact⟨⟨_,rfl,rfl⟩,trivial⟩
  cbv;all_goals exact⟨⟨_,rfl,_,rfl,rfl,rfl,rfl,trivial⟩,trivial⟩
 rintro _ hy2;replace hy2:=hy2.symm;subst hy2;try dsimp only[lr,lrL,lrp,aP] at h
 cbv
 cases hb7:(le (llen (r_Leg a0_Legs)) 20)
 ·rw[aa hb7] at h;cbv;iterate 4 try(rw[hb7];cbv)
  obtain rfl:=Option.some.inj h;exact ARet.mk trivial hX.symm
 rw[ab hb7] at h;cbv;iterate 4 try(rw[hb7];cbv)
 cases hb8:(le (llen (r_I64 a0_Off)) 10)
 ·rw[aa hb8] at h;cbv;iterate 3 try(rw[hb8];cbv)
  obtain rfl:=Option.some.inj h;exact ARet.mk trivial hX.symm
 rw[ab hb8] at h;cbv;iterate 2 try(rw[hb8];cbv)
 obtain⟨x4,hx4,h⟩:=ak h;try dsimp only at h
 refine ACall.mk _ _ rfl (hF _ _ _ (fK hg ht hx4)) (.inl rfl) (nb rfl) ?_;cbv;try(rw[hb8];cbv)
 obtain rfl:=Option.some.inj h;exact ARet.mk trivial hX.symm
def Hn:J:=js [jm 4 kf] [0,1] (.seq (js [jm 5 (ki 0)] [0,1,5] (.bl 0 (.seq (js [jm 6 5,jm 7 0,jq 8 (.len false 7),jb 9 .lss .i 6 8] [0,1,5,9] (.cond 9 .skip (.exit 0))) (.seq (.block 1 (js [jm 12 0,jm 13 5,ja 14 1 12 13,jk 15 14,jm 16 1,jb 17 .eql .i 15 16] [0,1,5,17] (.cond 17 (js [jm 4 kt] [4] .ret) .skip))) (.reg none [jm 10 5,jb 11 .add .i 10 (ki 1),jm 5 11] [0,1,5]))))) (js [jm 4 kf] [4] .ret))
def Gk:List RV:=[.t 4]
def fI (g:G) (t:TE) (a1:Int):List Int→LR Bool Unit
 |[]=>
  (LR.out ())
 |z1::ls1=>
  br (g.eq z1 a1)
  (
   (LR.ret true))
  (
   fI g t a1 ls1)
def qO (g:G) (t:TE) (a0:List Int) (a1:Int):Bool:=
 lP (fI g t a1 a0) fun o1=>lrp o1 fun y1=>
 false
theorem Bw {g:G} {t:TE} {a0:List Int} {a1:Int} {r:Bool} (hg:g=G.real) (ht:t=TE.real) (h:qO g t a0 a1=r):Fn Tryz.prog 154 [.c (.s 1 (t.r_I64 a0)),.c (.v (.int .i64 a1))] (.c (.r (.v (.bool r)))):=by
 obtain⟨X,hX⟩:=aE (.c (.r (.v (.bool r))):X);rw[←hX];refine au (rvs:=Gk) (j:=Hn) Tryz.func154 rfl (by kernel_rfl) (nb rfl) (by kernel_rfl) ae ?_;intro g2 F hg2 hF;obtain rfl:g2=g:=hg2.unique.trans hg.symm;clear hg2;obtain⟨wrap,lt,_,eq,_,_,_,_,_,_,_,_,_,add,_,_,_,_,_,_,_,llen⟩:=g2;obtain⟨_,_,r_I64⟩:=t
 unfold qO at h;try dsimp only at h
 cbv;obtain⟨o1,ho1,h⟩:=ak h;try dsimp only at h
 try rw[hg] at ho1
 try rw[ht] at ho1
 refine ABL.mk {p:Nat×Int//p.1≤a0.length∧p.2=((p.1:Nat):Int)∧fI G.real TE.real a1 (List.drop p.1 a0)=o1} (fun⟨⟨k1,v1⟩,_⟩=>({sl:=[(0,.c (.r (.s 1 (r_I64 a0)))),(1,.c (.r (.v (.int .i64 a1)))),(5,.c (.r (.v (.int .i64 v1))))],tab:=[]}:St)) 0 (fun p=>a0.length-p.1.1) ⟨(0,0),Nat.zero_le _,rfl,ho1⟩ (Unit) (fun _=>({sl:=[],tab:=[]}:St)) 0 (fun y=>o1=LR.out y) ?_ ?_ ?_
 ·refine Wk.of [] rfl rfl ?_ ?_
  ·cbv;all_goals exact⟨⟨_,rfl,rfl⟩,⟨_,rfl,rfl⟩,⟨_,rfl,rfl⟩,trivial⟩
  cbv;all_goals exact trivial
 ·rintro⟨⟨k1,v1⟩,hk1,hi1,h_1⟩ hq1;have hm1:=(hq1.1 0 _ _ rfl);try dsimp only at hk1 hi1 h_1
  clear hq1;cbv
  by_cases hc1_:k1<a0.length
  ·have hb1:lt v1 (llen (r_I64 a0))=true:=eV hg ht hi1 hc1_;have hs1:=ib hg ht hi1 hc1_ hm1;obtain⟨z1,hz1⟩:=aF hc1_;rw[aw hz1] at h_1;rw[fI] at h_1;try rw[←hg] at h_1
   try rw[←ht] at h_1
   try dsimp only at h_1
   rw[hb1];cbv;refine AStep.mk (e7 hi1) ?_;cbv;refine AGet.mk _ (fC hg ht hi1 hz1) ?_;cbv
   cases hb2:(eq z1 a1)
   rotate_left
   ·rw[ab hb2] at h_1;cbv;subst h_1;try dsimp only[lr,lrL,lrp,aP] at h
    subst h;exact ARet.mk trivial hX.symm
   rw[aa hb2] at h_1;cbv;try rw[hg] at h_1
   try rw[ht] at h_1
   refine⟨⟨(k1+1,(wrap .i64 (add v1 1))),hc1_,hs1,h_1⟩,Wk.of [] rfl rfl ?_ ?_,aO hc1_⟩
   ·cbv;all_goals exact⟨⟨_,rfl,rfl⟩,⟨_,rfl,rfl⟩,⟨_,rfl,rfl⟩,trivial⟩
   cbv;all_goals exact trivial
  have hb1:lt v1 (llen (r_I64 a0))=false:=ej hg ht hi1 hc1_;rw[List.drop_of_length_le (Nat.le_of_not_lt hc1_)] at h_1;rw[fI] at h_1;try rw[←hg] at h_1
  try rw[←ht] at h_1
  try dsimp only at h_1
  rw[hb1];cbv;refine⟨(),Wk.of [] rfl rfl ?_ ?_,h_1.symm⟩
  ·cbv;all_goals exact trivial
  cbv;all_goals exact trivial
 rintro _ hy1;replace hy1:=hy1.symm;subst hy1;try dsimp only[lr,lrL,lrp,aP] at h
 cbv;subst h;exact ARet.mk trivial hX.symm
end Go.Vs
